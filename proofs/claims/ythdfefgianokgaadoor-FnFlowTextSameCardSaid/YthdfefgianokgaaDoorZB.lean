/- Contracts of functions and plain lemmas, joined. No condition but those that each states. -/
import Derived.Lib.SplitLaws
import Derived.Lib.Strings
import Derived.Lib.Split
import Derived.Deep.RegionLaw
import Derived.Test.YthdfefgianokgaaDoorZA

/- How many orders a flow has. No program in sight. -/
namespace Go.Proofs.YthdfefgianokgaaDoor
open Go.RowKit

/-- In how many orders the k steps that are left can be done. -/
def cnt (ss : List Step) : Nat → List Str → Nat
  | 0, _ => 1
  | k + 1, done => ((rdyL ss done).map fun x => cnt ss k (done ++ [x])).sum

/-- What is done: steps of the flow, each once. -/
structure Done (ss : List Step) (done : List Str) : Prop where
  nodup : done.Nodup
  sub : ∀ x ∈ done, x ∈ namesOf ss

theorem Done.nil {ss : List Step} : Done ss [] := ⟨List.nodup_nil, by simp⟩
theorem Done.len {ss : List Step} {done : List Str} (h : Done ss done) : done.length ≤ ss.length := by
  have := nodup_le h.nodup h.sub
  rwa [namesOf_len] at this
theorem Done.next {ss : List Step} {done : List Str} {x : Str} (h : Done ss done) (hx : x ∈ rdyL ss done) : Done ss (done ++ [x]) := by
  obtain ⟨h1, h2⟩ := rdyL_new hx
  refine ⟨?_, ?_⟩
  · rw [List.nodup_append]
    refine ⟨h.nodup, by simp, ?_⟩
    intro a ha b hb
    rw [List.mem_singleton] at hb
    subst hb
    intro e; subst e; exact h1 ha
  · intro y hy
    rcases List.mem_append.1 hy with hy | hy
    · exact h.sub y hy
    · rw [List.mem_singleton] at hy; subst hy; exact h2

theorem sum_le_mul {xs : List Nat} {m : Nat} (h : ∀ x ∈ xs, x ≤ m) : xs.sum ≤ xs.length * m := by
  induction xs with
  | nil => simp
  | cons a r ih =>
    have h1 := h a (by simp)
    have h2 := ih (fun x hx => h x (by simp [hx]))
    rw [List.sum_cons, List.length_cons, Nat.add_mul, Nat.one_mul]
    omega

def fact : Nat → Nat
  | 0 => 1
  | n + 1 => (n + 1) * fact n
theorem fact_le {n m : Nat} (h : n ≤ m) : fact n ≤ fact m := by
  induction m with
  | zero => rw [Nat.le_zero.1 h]; exact Nat.le_refl _
  | succ m ih =>
    by_cases e : n = m + 1
    · rw [e]; exact Nat.le_refl _
    · have := ih (by omega)
      show _ ≤ (m + 1) * fact m
      calc fact n ≤ fact m := this
        _ = 1 * fact m := (Nat.one_mul _).symm
        _ ≤ (m + 1) * fact m := Nat.mul_le_mul_right _ (by omega)

theorem rdyL_nodup {ss : List Step} {done : List Str} (hn : (namesOf ss).Nodup) : (rdyL ss done).Nodup := by
  unfold rdyL
  exact List.Nodup.sublist (List.Sublist.map _ List.filter_sublist) hn

theorem rdyL_room {ss : List Step} {done : List Str} (hn : (namesOf ss).Nodup) (h : Done ss done) : done.length + (rdyL ss done).length ≤ ss.length := by
  have h1 : (done ++ rdyL ss done).Nodup := by
    rw [List.nodup_append]
    refine ⟨h.nodup, rdyL_nodup hn, ?_⟩
    intro a ha b hb e
    subst e
    exact (rdyL_new hb).1 ha
  have h2 := nodup_le h1 (ys := namesOf ss) (by
    intro x hx
    rcases List.mem_append.1 hx with hx | hx
    · exact h.sub x hx
    · exact (rdyL_new hx).2)
  rwa [List.length_append, namesOf_len] at h2

theorem cnt_le {ss : List Step} (hn : (namesOf ss).Nodup) : ∀ (k : Nat) (done : List Str), Done ss done → k + done.length = ss.length → cnt ss k done ≤ fact k
  | 0, _, _, _ => Nat.le_refl _
  | k + 1, done, hd, hk => by
    have h1 := rdyL_room hn hd
    show ((rdyL ss done).map fun x => cnt ss k (done ++ [x])).sum ≤ (k + 1) * fact k
    have h2 : ((rdyL ss done).map fun x => cnt ss k (done ++ [x])).sum ≤ (rdyL ss done).length * fact k := by
      have := sum_le_mul (xs := (rdyL ss done).map fun x => cnt ss k (done ++ [x])) (m := fact k) (by
        intro y hy
        obtain ⟨x, hx, rfl⟩ := List.mem_map.1 hy
        exact cnt_le hn k _ (hd.next hx) (by rw [List.length_append]; simp; omega))
      rwa [List.length_map] at this
    exact Nat.le_trans h2 (Nat.mul_le_mul_right _ (by omega))

theorem ready_some {ss : List Step} {done : List Str} (hc : (ordL ss).length = ss.length) (hlt : done.length < ss.length) : rdyL ss done ≠ [] := by
  intro hnil
  have key : ∀ j, ∀ x ∈ ordTo ss j, x ∈ done := by
    intro j
    induction j with
    | zero => intro x hx; cases hx
    | succ j ih =>
      intro x hx
      cases hr : rdyL ss (ordTo ss j) with
      | nil =>
        rw [show ordTo ss (j + 1) = ordTo ss j from ordStep_nil hr] at hx
        exact ih x hx
      | cons y r =>
        rw [show ordTo ss (j + 1) = ordTo ss j ++ [y] from ordStep_cons hr] at hx
        rcases List.mem_append.1 hx with hx | hx
        · exact ih x hx
        · rw [List.mem_singleton] at hx
          subst hx
          obtain ⟨s, hs, hb, hx⟩ := rdyL_mem.1 (show x ∈ rdyL ss (ordTo ss j) by rw [hr]; simp)
          by_cases hm : x ∈ done
          · exact hm
          exfalso
          have : x ∈ rdyL ss done := by
            refine rdyL_mem.2 ⟨s, hs, ?_, hx⟩
            unfold rdyB at hb ⊢
            simp only [Bool.and_eq_true, Bool.not_eq_true'] at hb ⊢
            refine ⟨hasB_false.2 (by rw [hx]; exact hm), ?_⟩
            exact haveB_iff.2 (fun y hy => ih y (haveB_iff.1 hb.2 y hy))
          rw [hnil] at this
          cases this
  have h2 := nodup_le (ordTo_nodup ss ss.length).1 (ys := done) (key ss.length)
  have : (ordTo ss ss.length).length = ss.length := hc
  omega

theorem cnt_pos {ss : List Step} (hc : (ordL ss).length = ss.length) : ∀ (k : Nat) (done : List Str), k + done.length = ss.length → 1 ≤ cnt ss k done
  | 0, _, _ => Nat.le_refl _
  | k + 1, done, hk => by
    have h1 := ready_some hc (done := done) (by omega)
    show 1 ≤ ((rdyL ss done).map fun x => cnt ss k (done ++ [x])).sum
    cases hr : rdyL ss done with
    | nil => exact absurd hr h1
    | cons x r =>
      have := cnt_pos hc k (done ++ [x]) (by rw [List.length_append]; simp; omega)
      rw [List.map_cons, List.sum_cons]
      omega
end Go.Proofs.YthdfefgianokgaaDoor

/- Counting orders: both. -/
namespace Go.Proofs.YthdfefgianokgaaDoor
open Go.RowKit

theorem sapp_step {w : World} {ops : Array Oper} {o : Oper} {a : Act} {K : Act → World → Prop} {Q : Exit → Act → World → Prop} {E : Prop} (w0 : World) (v : Value) (n : Nat) (cs : List Str) (b : Nat) (s : Str) (hown : Own 9 1 w0 w v n (cs.map Value.string))
    (hgd : o.guard = none) (l r : Operand) (ho : o.op = .call { callee := .builtin .append, args := #[l, r], argTypes := #[23, 23] })
    (hs : a.eval l = v) (hx : a.eval r = .slice (some ⟨b, 0, none⟩) 1 1) (hb : w.heap[b]? = some (.cells #[.string s] 9 (0, 0))) (hn : n ≤ 1048576)
    (h : ∀ v' w', Own 9 1 w0 w' v' (n + 1) ((cs ++ [s]).map Value.string) → w.grownBy w' v.ownBlock → K (a.put o.dst v') w') :
    if Region.wanted o (yielded ops a.tmps) = true then Oper.wp Tryd.prog o a w K Q else E := by
  have hw : Region.wanted o (yielded ops a.tmps) = true := by simp [Region.wanted, hgd]
  rw [if_pos hw]
  refine wapp 23 9 1 16 _ Tryd.underlying23 info_str rfl (by omega) (by omega) w0.heap.size v n _ [.string s] b hown.row l r ho hs hx hb rfl ?_ hn hown.below.size ?_
  · intro u hu; simp at hu; subst hu; rfl
  · intro v' w' h1 h2 h3
    exact h v' w' (hown.next (by rw [List.map_append]; exact h1) h2) h2

/-- The orders behind the first i that are ready. -/
def cntTo (ss : List Step) (k : Nat) (done : List Str) (i : Nat) : Nat := (((rdyL ss done).take i).map fun x => cnt ss k (done ++ [x])).sum
theorem cntTo_next {ss : List Step} {k : Nat} {done : List Str} {i : Nat} (h : i < (rdyL ss done).length) :
    cntTo ss k done (i + 1) = cntTo ss k done i + cnt ss k (done ++ [nth (rdyL ss done) i]) := by
  unfold cntTo; rw [take_nth h, List.map_append, List.sum_append]; simp
theorem cntTo_all {ss : List Step} {k : Nat} {done : List Str} : cntTo ss k done (rdyL ss done).length = cnt ss (k + 1) done := by
  unfold cntTo; rw [List.take_of_length_le (Nat.le_refl _)]; rfl

theorem cntTo_le {ss : List Step} (hn : (namesOf ss).Nodup) {k : Nat} {done : List Str} (hd : Done ss done) (hk : k + 1 + done.length = ss.length) (i : Nat) : cntTo ss k done i ≤ i * fact k := by
  unfold cntTo
  have := sum_le_mul (xs := ((rdyL ss done).take i).map fun x => cnt ss k (done ++ [x])) (m := fact k) (by
    intro y hy
    obtain ⟨x, hx, rfl⟩ := List.mem_map.1 hy
    exact cnt_le hn k _ (hd.next (List.mem_of_mem_take hx)) (by rw [List.length_append]; simp; omega))
  rw [List.length_map] at this
  exact Nat.le_trans this (Nat.mul_le_mul_right _ (List.length_take_le _ _))

theorem wrap_nat {a b : Nat} (h : a + b ≤ 1048576) : IntKind.i64.wrap ((a : Int) + (b : Int)) = ((a + b : Nat) : Int) := by
  rw [IntWalk.i64_in _ (by omega)]; omega

end Go.Proofs.YthdfefgianokgaaDoor

/- Counting orders: the functions. -/
namespace Go.Proofs.YthdfefgianokgaaDoor
open Go.RowKit

def cntF (f : Flow) : Int := if flowB f = true ∧ f.steps.length ≤ 6 then (cnt f.steps f.steps.length [] : Nat) else -1

theorem steps_lt {ss : List Step} (h : ∀ j, j < ss.length → stepAt ss j = true) : ∀ j, j < ss.length → ∀ i, i < j → strLt (nth ss i).name (nth ss j).name = true := by
  intro j
  induction j with
  | zero => intro _ i hi; omega
  | succ j ih =>
    intro hj i hi
    have h1 := h (j + 1) hj
    simp only [stepAt, Bool.and_eq_true, Bool.or_eq_true, decide_eq_true_eq] at h1
    have h2 : strLt (nth ss j).name (nth ss (j + 1)).name = true := by
      rcases h1.1.2 with h2 | h2
      · omega
      · simpa using h2
    by_cases e : i = j
    · rw [e]; exact h2
    · exact strLt_trans (ih (by omega) i (by omega)) h2

theorem flow_nodup {f : Flow} (h : flowB f = true) : (namesOf f.steps).Nodup := by
  have h1 := steps_lt (flowB_iff.1 h).1
  unfold List.Nodup
  rw [List.pairwise_iff_getElem]
  intro i j hi hj hij
  rw [namesOf_len] at hi hj
  rw [← nth_eq, ← nth_eq, namesOf_at hi, namesOf_at hj]
  exact strLt_ne (h1 j hj i hij)

end Go.Proofs.YthdfefgianokgaaDoor

/- Counting orders: the reference. -/
namespace Go.Proofs.YthdfefgianokgaaDoor
open Go.RowKit

theorem sapps_step {w : World} {ops : Array Oper} {o : Oper} {a : Act} {K : Act → World → Prop} {Q : Exit → Act → World → Prop} {E : Prop} (w0 : World) (v : Value) (n : Nat) (cs : List Str) (lo : Nat) (A : Option Addr) (m c : Nat) (ys : List Str) (hown : Own 9 1 w0 w v n (cs.map Value.string))
    (hr : RStr w lo A m ys) (hgd : o.guard = none) (l x : Operand) (ho : o.op = .call { callee := .builtin .append, args := #[l, x], argTypes := #[23, 23] })
    (hs : a.eval l = v) (hx : a.eval x = .slice A m c) (hn : n + m ≤ 4194304)
    (h : ∀ v' w', Own 9 1 w0 w' v' (n + m) ((cs ++ ys).map Value.string) → w.grownBy w' v.ownBlock → K (a.put o.dst v') w') :
    if Region.wanted o (yielded ops a.tmps) = true then Oper.wp Tryd.prog o a w K Q else E := by
  have hw : Region.wanted o (yielded ops a.tmps) = true := by simp [Region.wanted, hgd]
  rw [if_pos hw]
  exact wappl 23 9 1 16 _ Tryd.underlying23 info_str rfl (by omega) (by omega) w0.heap.size v n _ (ys.map Value.string) A m c hown.row l x ho hs hx (by rw [List.length_map, hr.1]; omega) (news_str hr) (by simp [Value.oneCell']) hn hown.below.size
    fun v' w' h2 h3 _ => h v' w' (hown.next (by rw [List.map_append]; exact h2) h3) h3

theorem own_new {w0 w : World} {b : Nat} (hb : Below w0.heap.size w0 w) (e : b = w.heap.size) : Own 9 1 w0 (w.alloc (.cells #[] 9)) (.slice (some ⟨b, 0, none⟩) 0 0) 0 (([] : List Str).map Value.string) := by
  subst e
  exact ⟨World.ownsRow_made w #[] 0 hb.size (Nat.zero_le _) rfl, hb.alloc hb.size _⟩

/-- The orders behind those of the first i steps that are ready. -/
def cntS (ss : List Step) (k : Nat) (done : List Str) (i : Nat) : Nat := ((rdyTo ss done i).map fun x => cnt ss k (done ++ [x])).sum
theorem cntS_yes {ss : List Step} {k : Nat} {done : List Str} {i : Nat} (hi : i < ss.length) (h : rdyB done (nth ss i) = true) :
    cntS ss k done (i + 1) = cntS ss k done i + cnt ss k (done ++ [(nth ss i).name]) := by
  unfold cntS; rw [rdyTo_yes hi h, List.map_append, List.sum_append]; simp
theorem cntS_no {ss : List Step} {k : Nat} {done : List Str} {i : Nat} (hi : i < ss.length) (h : rdyB done (nth ss i) = false) : cntS ss k done (i + 1) = cntS ss k done i := by
  unfold cntS; rw [rdyTo_no hi h]
theorem cntS_all {ss : List Step} {k : Nat} {done : List Str} {i : Nat} (hi : ss.length ≤ i) : cntS ss k done i = cnt ss (k + 1) done := by
  unfold cntS; rw [rdyTo_all hi]; rfl
theorem cntS_le {ss : List Step} (hn : (namesOf ss).Nodup) {k : Nat} {done : List Str} (hd : Done ss done) (hk : k + 1 + done.length = ss.length) (i : Nat) : cntS ss k done i ≤ i * fact k := by
  unfold cntS
  have := sum_le_mul (xs := (rdyTo ss done i).map fun x => cnt ss k (done ++ [x])) (m := fact k) (by
    intro y hy
    obtain ⟨x, hx, rfl⟩ := List.mem_map.1 hy
    refine cnt_le hn k _ (hd.next ?_) (by rw [List.length_append]; simp; omega)
    unfold rdyTo at hx
    obtain ⟨s, hs, rfl⟩ := List.mem_map.1 hx
    obtain ⟨h1, h2⟩ := List.mem_filter.1 hs
    exact rdyL_mem.2 ⟨s, List.mem_of_mem_take h1, h2, rfl⟩)
  rw [List.length_map] at this
  exact Nat.le_trans this (Nat.mul_le_mul_right _ (rdyTo_len ss done i))

end Go.Proofs.YthdfefgianokgaaDoor

/- Counting orders: the reference's function. -/
namespace Go.Proofs.YthdfefgianokgaaDoor
open Go.RowKit

end Go.Proofs.YthdfefgianokgaaDoor

/- The mark of a step's text. -/
namespace Go.Proofs.YthdfefgianokgaaDoor
open Go.RowKit

theorem get_app {a z : Str} {k : Nat} (hz : z.size = k + 1) (h : a.size + k < (a ++ z : Str).size) : (a ++ z : Str)[a.size + k] = z[k]'(by omega) := by
  have hl : (a ++ z : Str).data.toList = a.data.toList ++ z.data.toList := bl_app a z
  have hk : k < z.data.toList.length := by
    have : z.data.toList.length = z.size := rfl
    omega
  have e : (a ++ z : Str).data.toList[a.size + k]? = some z.data.toList[k] := by
    rw [hl, List.getElem?_append_right (show a.data.toList.length ≤ a.size + k from Nat.le_add_right a.size k), show a.size + k - a.data.toList.length = k from Nat.add_sub_cancel_left a.size k]
    exact List.getElem?_eq_getElem hk
  obtain ⟨h1, e2⟩ := List.getElem?_eq_some_iff.1 e
  have e3 : (a ++ z : Str)[a.size + k] = (a ++ z : Str).data.toList[a.size + k] := rfl
  have e4 : z[k]'(by omega) = z.data.toList[k] := rfl
  rw [e3, e4]
  exact e2
/-- The last byte. -/
def lastIs (y : Str) (k : Nat) (b : UInt8) : Prop := y.size = k + 1 ∧ ∀ h : k < y.size, y[k] = b
theorem lastIs_app {a z : Str} {k : Nat} {b : UInt8} (h : lastIs z k b) : lastIs (a ++ z) (a.size + k) b :=
  ⟨by rw [bsz_app, h.1]; omega, fun hh => by rw [get_app h.1 hh]; exact h.2 _⟩
theorem lastIs_one (b : UInt8) : lastIs ⟨#[b]⟩ 0 b := ⟨rfl, fun _ => rfl⟩
theorem name_last {s : Str} (h : nameB s = true) : ∃ k b, lastIs s k b ∧ b ≠ 33 := by
  have h1 := nameB_size h
  refine ⟨s.size - 1, s[s.size - 1]'(by omega), ⟨by omega, fun _ => rfl⟩, ?_⟩
  unfold nameB at h
  simp only [Bool.and_eq_true] at h
  have h2 := List.all_eq_true.1 h.2 (s[s.size - 1]'(by omega)) (by
    show s.data[s.size - 1]'_ ∈ _
    rw [← Array.getElem_toList]
    exact List.getElem_mem _)
  unfold lowB at h2
  simp only [Bool.and_eq_true, decide_eq_true_eq] at h2
  intro e
  rw [e] at h2
  exact absurd h2.1 (by decide)
theorem names_last {xs : List Str} (h : ∀ j, j < xs.length → nameB (nth xs j) = true) : ∃ k b, lastIs (namesS xs) k b ∧ b ≠ 33 := by
  unfold namesS
  split
  · exact ⟨0, 45, lastIs_one 45, by decide⟩
  · obtain ⟨k, hk⟩ : ∃ k, xs.length = k + 1 := ⟨xs.length - 1, by omega⟩
    obtain ⟨i, b, hi, hb⟩ := name_last (h k (by omega))
    rw [hk]
    exact ⟨_, b, lastIs_app hi, hb⟩
/-- What the law asks of a text. -/
structure Mark (s : Step) (y : Str) (k : Nat) (b : UInt8) : Prop where
  last : lastIs y k b
  mark : b = 33 ↔ s.undo = false
  pre : ∃ z, y = s.name ++ z
  small : y.size ≤ 100
theorem mark_ex {s : Step} (h : stepB s = true) : ∃ k b, Mark s (stepS s) k b := by
  obtain ⟨hn4, hz, hnm⟩ := stepB_sizes h
  obtain ⟨k, b, h1, h2⟩ := names_last hnm
  have h3 := namesS_size hn4 hnm
  have e1 : (⟨#[58]⟩ : Str).size = 1 := rfl
  have e2 : (⟨#[33]⟩ : Str).size = 1 := rfl
  unfold stepS
  cases hu : s.undo
  · rw [if_neg (by simp)]
    refine ⟨_, 33, lastIs_app (lastIs_one 33), by simp [hu], ⟨⟨#[58]⟩ ++ namesS s.after ++ ⟨#[33]⟩, by simp [ByteArray.append_assoc]⟩, ?_⟩
    rw [bsz_app, bsz_app, bsz_app]; omega
  · rw [if_pos rfl]
    refine ⟨_, b, lastIs_app h1, by simp [hu, h2], ⟨⟨#[58]⟩ ++ namesS s.after, by simp [ByteArray.append_assoc]⟩, ?_⟩
    rw [bsz_app, bsz_app]; omega
end Go.Proofs.YthdfefgianokgaaDoor

/- Texts cut at a byte, and the step of a text. No program in sight. -/
namespace Go.Proofs.YthdfefgianokgaaDoor
open Go.RowKit

abbrev Bytes := List UInt8
/-- A text cut at each byte of one kind. -/
def cutW (b : UInt8) : Bytes → List Bytes
  | [] => [[]]
  | c :: r => if c = b then [] :: cutW b r else match cutW b r with
    | [] => [[c]]
    | h :: t => (c :: h) :: t
theorem cutW_ne (b : UInt8) : ∀ s : Bytes, cutW b s ≠ []
  | [] => by simp [cutW]
  | c :: r => by
    unfold cutW
    split
    · simp
    · split <;> simp
theorem cutW_none {b : UInt8} : ∀ {a : Bytes}, (∀ x ∈ a, x ≠ b) → cutW b a = [a]
  | [], _ => rfl
  | c :: r, h => by
    have ih := cutW_none (b := b) (a := r) fun x hx => h x (List.mem_cons_of_mem _ hx)
    unfold cutW
    rw [if_neg (h c (List.mem_cons_self ..)), ih]
theorem cutW_hit {b : UInt8} (r : Bytes) : ∀ {a : Bytes}, (∀ x ∈ a, x ≠ b) → cutW b (a ++ b :: r) = a :: cutW b r
  | [], _ => by show cutW b (b :: r) = _; rw [cutW, if_pos rfl]
  | c :: a, h => by
    have ih := cutW_hit (b := b) r (a := a) fun x hx => h x (List.mem_cons_of_mem _ hx)
    rw [List.cons_append, cutW, if_neg (h c (List.mem_cons_self ..)), ih]
theorem cutW_len (b : UInt8) : ∀ s : Bytes, (cutW b s).length ≤ s.length + 1
  | [] => by simp [cutW]
  | c :: r => by
    have ih := cutW_len b r
    unfold cutW
    split
    · simp; omega
    · cases h : cutW b r with
      | nil => simp
      | cons x t => rw [h] at ih; simp at ih ⊢; omega
theorem cutW_mem (b : UInt8) : ∀ (s : Bytes), ∀ x ∈ cutW b s, x.length ≤ s.length
  | [], x, hx => by simp [cutW] at hx; subst hx; simp
  | c :: r, x, hx => by
    have ih := cutW_mem b r
    unfold cutW at hx
    split at hx
    · rcases List.mem_cons.1 hx with rfl | hx
      · simp
      · have := ih x hx; simp; omega
    · cases h : cutW b r with
      | nil => rw [h] at hx; simp at hx; subst hx; simp
      | cons y t =>
        rw [h] at hx ih
        simp only [List.mem_cons] at hx ih
        rcases hx with rfl | hx
        · have := ih y (.inl rfl); simp; omega
        · have := ih x (.inr hx); simp; omega
theorem cutW_join {b : UInt8} : ∀ (xs : List Bytes), xs ≠ [] → (∀ x ∈ xs, ∀ c ∈ x, c ≠ b) → cutW b (Lib.join xs [b]) = xs
  | [], h, _ => absurd rfl h
  | [x], _, h => by rw [Lib.join_one]; exact cutW_none (h x (List.mem_cons_self ..))
  | x :: y :: r, _, h => by
    have ih := cutW_join (b := b) (y :: r) (by simp) fun z hz => h z (List.mem_cons_of_mem _ hz)
    have e : Lib.join (x :: y :: r) [b] = x ++ b :: Lib.join (y :: r) [b] := by
      rw [Lib.join_cons, Lib.join_cons]
      simp [Lib.joinTail]
    rw [e, cutW_hit _ (h x (List.mem_cons_self ..)), ih]

/-- The shelf's words. -/
theorem index_none {b : UInt8} : ∀ {a : Bytes}, (∀ x ∈ a, x ≠ b) → Lib.index a [b] = -1
  | [], _ => by simp [Lib.index]
  | c :: r, h => by
    have ih := index_none (b := b) (a := r) fun x hx => h x (List.mem_cons_of_mem _ hx)
    have hc : b ≠ c := Ne.symm (h c (List.mem_cons_self ..))
    rw [Lib.index, ih]
    simp [List.isPrefixOf, hc]
theorem index_hit {b : UInt8} (r : Bytes) : ∀ {a : Bytes}, (∀ x ∈ a, x ≠ b) → Lib.index (a ++ b :: r) [b] = (a.length : Int)
  | [], _ => by rw [List.nil_append, Lib.index]; simp [List.isPrefixOf]
  | c :: a, h => by
    have ih := index_hit (b := b) r (a := a) fun x hx => h x (List.mem_cons_of_mem _ hx)
    have hc : b ≠ c := Ne.symm (h c (List.mem_cons_self ..))
    rw [List.cons_append, Lib.index, ih]
    have : ¬ ((a.length : Int) == -1) = true := by intro e; have := beq_iff_eq.1 e; omega
    simp [List.isPrefixOf, hc]
theorem first_split (b : UInt8) : ∀ s : Bytes, (∀ x ∈ s, x ≠ b) ∨ ∃ a r, s = a ++ b :: r ∧ ∀ x ∈ a, x ≠ b
  | [] => .inl (fun x hx => by cases hx)
  | c :: s => by
    by_cases h : c = b
    · subst h; exact .inr ⟨[], s, rfl, fun x hx => by cases hx⟩
    · rcases first_split b s with h1 | ⟨a, r, e, h1⟩
      · exact .inl fun x hx => by
          rcases List.mem_cons.1 hx with rfl | hx
          · exact h
          · exact h1 x hx
      · refine .inr ⟨c :: a, r, by rw [e]; rfl, fun x hx => ?_⟩
        rcases List.mem_cons.1 hx with rfl | hx
        · exact h
        · exact h1 x hx
theorem splitK_cut (b : UInt8) : ∀ (k : Nat) (s : Bytes), Lib.count s [b] = k → Lib.splitK [b] 0 k s = cutW b s
  | 0, s, h => by
    rcases first_split b s with h1 | ⟨a, r, e, h1⟩
    · rw [cutW_none h1]; rfl
    · rw [Lib.count_one, e] at h
      simp at h
  | k + 1, s, h => by
    rcases first_split b s with h1 | ⟨a, r, e, h1⟩
    · rw [Lib.count_one] at h
      have : s.count b = 0 := List.count_eq_zero.2 fun hb => h1 b hb rfl
      omega
    · have ha : a.count b = 0 := List.count_eq_zero.2 fun hb => h1 b hb rfl
      have hr : Lib.count r [b] = k := by
        rw [Lib.count_one] at h ⊢
        rw [e, List.count_append, List.count_cons_self, ha] at h
        omega
      have hi := index_hit (b := b) r h1
      rw [e, cutW_hit r h1, Lib.splitK, hi]
      have hn : ¬ ((a.length : Int) == -1) = true := by intro e; have := beq_iff_eq.1 e; omega
      rw [if_neg hn]
      have e1 : ((a.length : Int).toNat + 0) = a.length := by omega
      have e2 : (((a.length : Int).toNat) + [b].length) = a.length + 1 := by simp
      rw [e1, e2, List.take_left]
      have e3 : (a ++ b :: r).drop (a.length + 1) = r := by
        rw [List.drop_append]
        simp
      rw [e3, splitK_cut b k r hr]
theorem split_cut (b : UInt8) (s : Bytes) : Lib.splitK [b] 0 (Lib.count s [b]) s = cutW b s := splitK_cut b _ s rfl
theorem count_cutW (b : UInt8) : ∀ s : Bytes, (cutW b s).length = s.count b + 1
  | [] => rfl
  | c :: s => by
    have ih := count_cutW b s
    by_cases h : c = b
    · subst h; rw [cutW, if_pos rfl, List.length_cons, ih, List.count_cons_self]
    · rw [cutW, if_neg h, List.count_cons_of_ne (by simpa using h)]
      cases h2 : cutW b s with
      | nil => exact absurd h2 (cutW_ne b s)
      | cons x t => rw [h2] at ih; simpa using ih
theorem count_cut (b : UInt8) (s : Bytes) : (cutW b s).length = Lib.count s [b] + 1 := by
  rw [Lib.count_one]
  exact count_cutW b s
theorem cut_hit {b : UInt8} {a : Bytes} (r : Bytes) (h : ∀ x ∈ a, x ≠ b) : Lib.cut (a ++ b :: r) [b] = (a, r, true) := by
  unfold Lib.cut
  rw [index_hit r h, if_pos (by omega)]
  have e3 : (a ++ b :: r).drop ((a.length : Int).toNat + [b].length) = r := by
    have : (a.length : Int).toNat + [b].length = a.length + 1 := by simp
    rw [this, List.drop_append]
    simp
  rw [e3]
  simp
theorem cut_miss {b : UInt8} {a : Bytes} (h : ∀ x ∈ a, x ≠ b) : Lib.cut a [b] = (a, [], false) := by
  unfold Lib.cut
  rw [index_none h, if_neg (by omega)]

/-- Bytes of a step's text. -/
def bs (s : Str) : Bytes := s.data.toList
def ofBs (l : Bytes) : Str := ⟨l.toArray⟩
theorem bs_of (l : Bytes) : bs (ofBs l) = l := by simp [bs, ofBs]
theorem of_bs (s : Str) : ofBs (bs s) = s := by
  unfold bs ofBs
  obtain ⟨⟨l⟩⟩ := s
  rfl
theorem bs_app (a b : Str) : bs (a ++ b) = bs a ++ bs b := bl_app a b
theorem bs_len (s : Str) : (bs s).length = s.size := rfl
theorem name_byte {s : Str} (h : nameB s = true) : ∀ c ∈ bs s, 97 ≤ c.toNat ∧ c.toNat ≤ 122 := by
  intro c hc
  unfold nameB at h
  simp only [Bool.and_eq_true] at h
  have h2 := List.all_eq_true.1 h.2 c (by
    show c ∈ _
    exact hc)
  unfold lowB at h2
  simp only [Bool.and_eq_true, decide_eq_true_eq] at h2
  omega
theorem bs_names {xs : List Str} : bs (namesS xs) = if xs.length = 0 then [45] else Lib.join (xs.map bs) [44] := by
  unfold namesS
  by_cases h : xs.length = 0
  · rw [if_pos h, if_pos h]; rfl
  · rw [if_neg h, if_neg h, ← jnS_join (by omega)]
    exact bs_of _
theorem bs_step (t : Step) : bs (stepS t) = bs t.name ++ 58 :: (bs (namesS t.after) ++ if t.undo then [] else [33]) := by
  unfold stepS
  cases t.undo
  · simp only [Bool.false_eq_true, if_false]
    rw [bs_app, bs_app, bs_app]
    simp [bs]
  · simp only [if_true]
    rw [bs_app, bs_app]
    simp [bs]
theorem join_bytes {P : UInt8 → Prop} (h44 : P 44) : ∀ xs : List Bytes, (∀ x ∈ xs, ∀ c ∈ x, P c) → ∀ c ∈ Lib.join xs [44], P c
  | [], _, c, hc => by simp [Lib.join] at hc
  | [x], h, c, hc => by rw [Lib.join_one] at hc; exact h x (List.mem_cons_self ..) c hc
  | x :: y :: r, h, c, hc => by
    have e : Lib.join (x :: y :: r) [44] = x ++ 44 :: Lib.join (y :: r) [44] := by
      rw [Lib.join_cons, Lib.join_cons]
      simp [Lib.joinTail]
    rw [e] at hc
    rcases List.mem_append.1 hc with hc | hc
    · exact h x (List.mem_cons_self ..) c hc
    · rcases List.mem_cons.1 hc with rfl | hc
      · exact h44
      · exact join_bytes h44 (y :: r) (fun z hz => h z (List.mem_cons_of_mem _ hz)) c hc
theorem names_byte {xs : List Str} (h : ∀ j, j < xs.length → nameB (nth xs j) = true) : ∀ c ∈ bs (namesS xs), c ≠ 58 ∧ c ≠ 33 := by
  intro c hc
  rw [bs_names] at hc
  split at hc
  · simp at hc; subst hc; decide
  · refine join_bytes (P := fun c => c ≠ 58 ∧ c ≠ 33) (by decide) (xs.map bs) (fun x hx => ?_) c hc
    obtain ⟨s, hs, rfl⟩ := List.mem_map.1 hx
    obtain ⟨j, hj, rfl⟩ := nth_of_mem hs
    intro c hc
    have h2 := name_byte (h j hj) c hc
    constructor <;> (intro e; subst e; revert h2; decide)
theorem name_no {s : Str} (h : nameB s = true) (b : UInt8) (hb : b.toNat < 97) : ∀ c ∈ bs s, c ≠ b := by
  intro c hc e
  subst e
  have := name_byte h c hc
  omega

/-- The text ahead of the mark, and whether there is none. -/
def restL (s : Str) : Bytes := if bs s ≠ [] ∧ (bs s).getLast? = some 33 then (bs s).dropLast else bs s
def undoL (s : Str) : Bool := !decide ((bs s).getLast? = some 33)
/-- What a text's words are read as. -/
def readS (s : Str) (name after : Bytes) : Step := ⟨ofBs name, if after = [45] then [] else (cutW 44 after).map ofBs, undoL s⟩

theorem step_rest {t : Step} (h : stepB t = true) : restL (stepS t) = bs t.name ++ 58 :: bs (namesS t.after) ∧ undoL (stepS t) = t.undo := by
  obtain ⟨_, _, hnm⟩ := stepB_sizes h
  have hb := names_byte hnm
  have hne : bs (namesS t.after) ≠ [] := by
    rw [bs_names]
    split
    · simp
    · intro e
      have h1 := congrArg List.length e
      cases ha : t.after with
      | nil => simp [ha] at *
      | cons x r =>
        have hx : nameB x = true := by have := hnm 0 (by rw [ha]; simp); rw [ha] at this; exact this
        have hs := (nameB_size hx).1
        rw [ha, List.map_cons, Lib.join_cons] at h1
        simp at h1
        have : (bs x).length = x.size := bs_len x
        rw [h1.1] at this
        simp at this
        omega
  unfold restL undoL
  rw [bs_step]
  cases t.undo
  · simp only [Bool.false_eq_true, if_false]
    have e1 : (bs t.name ++ 58 :: (bs (namesS t.after) ++ [33])) = (bs t.name ++ 58 :: bs (namesS t.after)) ++ [33] := by simp
    rw [e1]
    generalize bs t.name ++ 58 :: bs (namesS t.after) = q
    have h1 : (q ++ [(33 : UInt8)]).getLast? = some 33 := List.getLast?_concat ..
    rw [h1, if_pos ⟨by simp, rfl⟩, List.dropLast_concat]
    exact ⟨rfl, by simp⟩
  · simp only [if_true, List.append_nil]
    have e1 : (bs t.name ++ 58 :: bs (namesS t.after)).getLast? ≠ some 33 := by
      rw [List.getLast?_append]
      have : (58 :: bs (namesS t.after)).getLast? = (bs (namesS t.after)).getLast? := by
        cases hx : bs (namesS t.after) with
        | nil => exact absurd hx hne
        | cons a r => rfl
      rw [this]
      cases hx : (bs (namesS t.after)).getLast? with
      | none => exact absurd (List.getLast?_eq_none_iff.1 hx) hne
      | some c =>
        have := hb c (List.mem_of_getLast? hx)
        simp [this.2]
    rw [if_neg (fun h => e1 h.2)]
    exact ⟨rfl, by rw [decide_eq_false e1]; rfl⟩
theorem step_read {t : Step} (h : stepB t = true) : readS (stepS t) (bs t.name) (bs (namesS t.after)) = t := by
  obtain ⟨_, _, hnm⟩ := stepB_sizes h
  unfold readS
  rw [(step_rest h).2, of_bs]
  have ha : (if bs (namesS t.after) = [45] then [] else (cutW 44 (bs (namesS t.after))).map ofBs) = t.after := by
    rw [bs_names]
    by_cases h0 : t.after.length = 0
    · rw [if_pos h0, if_pos rfl]
      exact (List.length_eq_zero_iff.1 h0).symm
    · rw [if_neg h0]
      have hmem : ∀ x ∈ t.after.map bs, ∀ c ∈ x, 97 ≤ c.toNat := fun x hx c hc => by
        obtain ⟨s, hs, rfl⟩ := List.mem_map.1 hx
        obtain ⟨j, hj, rfl⟩ := nth_of_mem hs
        exact (name_byte (hnm j hj) c hc).1
      have hne : Lib.join (t.after.map bs) [44] ≠ [45] := by
        intro e
        have : ∀ c ∈ Lib.join (t.after.map bs) [44], c ≠ 45 := join_bytes (by decide) _ fun x hx c hc e => by
          have := hmem x hx c hc
          subst e
          revert this; decide
        exact this 45 (by rw [e]; simp) rfl
      rw [if_neg hne, cutW_join _ (by intro e; apply h0; simpa using e) fun x hx c hc e => by
        have := hmem x hx c hc
        subst e
        revert this; decide]
      rw [List.map_map]
      have : (ofBs ∘ bs) = id := by funext s; exact of_bs s
      rw [this, List.map_id]
  rw [ha]

/-- The step of a text, if it is that of one. -/
def fromW (s : Str) : Option Step := match cutW 58 (restL s) with
  | [a, b] => if stepB (readS s a b) = true ∧ stepS (readS s a b) = s then some (readS s a b) else none
  | _ => none
def noStep : Step := ⟨⟨#[]⟩, [], false⟩
def fromB (s : Str) : Bool := (fromW s).isSome
def fromT (s : Str) : Step := (fromW s).getD noStep
theorem stepS_inj {t u : Step} (h : stepB t = true) (k : stepB u = true) (e : stepS t = stepS u) : t = u := by
  have h1 := (step_rest h).1
  have k1 := (step_rest k).1
  obtain ⟨_, hn, hnm⟩ := stepB_sizes h
  have hname : nameB t.name = true ∧ nameB u.name = true := by
    unfold stepB at h k
    simp only [Bool.and_eq_true] at h k
    exact ⟨h.1.1.2, k.1.1.2⟩
  have c1 := cut_hit (b := 58) (bs (namesS t.after)) (name_no hname.1 58 (by decide))
  have c2 := cut_hit (b := 58) (bs (namesS u.after)) (name_no hname.2 58 (by decide))
  rw [← h1] at c1
  rw [← k1] at c2
  rw [e, c2] at c1
  injection c1 with e1 e2
  injection e2 with e2 _
  have := step_read h
  rw [← e1, ← e2, e, step_read k] at this
  exact this.symm
theorem fromW_of {t : Step} (h : stepB t = true) : fromW (stepS t) = some t := by
  obtain ⟨_, _, hnm⟩ := stepB_sizes h
  have hname : nameB t.name = true := by
    unfold stepB at h
    simp only [Bool.and_eq_true] at h
    exact h.1.1.2
  have e : cutW 58 (restL (stepS t)) = [bs t.name, bs (namesS t.after)] := by
    rw [(step_rest h).1, cutW_hit _ (name_no hname 58 (by decide)), cutW_none (fun c hc => (names_byte hnm c hc).1)]
  unfold fromW
  rw [e]
  show (if stepB (readS (stepS t) (bs t.name) (bs (namesS t.after))) = true ∧ stepS (readS (stepS t) (bs t.name) (bs (namesS t.after))) = stepS t then some (readS (stepS t) (bs t.name) (bs (namesS t.after))) else none) = some t
  rw [step_read h, if_pos ⟨h, rfl⟩]
theorem fromW_some {s : Str} {t : Step} (h : fromW s = some t) : stepB t = true ∧ stepS t = s := by
  unfold fromW at h
  split at h
  · rename_i a b _
    by_cases hc : stepB (readS s a b) = true ∧ stepS (readS s a b) = s
    · rw [if_pos hc] at h
      rw [← Option.some.inj h]
      exact hc
    · rw [if_neg hc] at h; cases h
  · cases h
theorem from_yes {s : Str} {t : Step} (h : stepB t = true) (e : stepS t = s) : fromB s = true ∧ fromT s = t := by
  have hx := fromW_of h
  rw [e] at hx
  unfold fromB fromT
  rw [hx]
  exact ⟨rfl, rfl⟩
theorem from_ex {s : Str} (h : fromB s = true) : stepB (fromT s) = true ∧ stepS (fromT s) = s := by
  unfold fromB at h
  unfold fromT
  cases hx : fromW s with
  | none => rw [hx] at h; cases h
  | some t => exact fromW_some hx
theorem from_not {s : Str} (h : fromB s = false) : fromT s = noStep := by
  unfold fromB at h
  unfold fromT
  cases hx : fromW s with
  | none => rfl
  | some t => rw [hx] at h; cases h
theorem from_no {s : Str} (h : ∀ t, stepB t = true → stepS t ≠ s) : fromB s = false := by
  cases hb : fromB s
  · rfl
  · obtain ⟨h1, h2⟩ := from_ex hb
    exact absurd h2 (h _ h1)
theorem from_text (t : Step) (s : Str) : (stepB t = true ∧ stepS t = s) ↔ (fromB s = true ∧ fromT s = t) :=
  ⟨fun h => from_yes h.1 h.2, fun h => h.2 ▸ from_ex h.1⟩
/-- The text's words, where it is a step's. -/
theorem from_words {s : Str} (h : fromB s = true) : ∃ name after : Bytes, restL s = name ++ 58 :: after ∧ (∀ c ∈ name, c ≠ 58) ∧ (∀ c ∈ after, c ≠ 58) ∧ readS s name after = fromT s ∧ s.size ≤ 100 := by
  obtain ⟨h1, h2⟩ := from_ex h
  obtain ⟨h4, hz, hnm⟩ := stepB_sizes h1
  have hname : nameB (fromT s).name = true := by
    unfold stepB at h1
    simp only [Bool.and_eq_true] at h1
    exact h1.1.1.2
  refine ⟨bs (fromT s).name, bs (namesS (fromT s).after), ?_, name_no hname 58 (by decide), fun c hc => (names_byte hnm c hc).1, ?_, ?_⟩
  · have := (step_rest h1).1; rw [h2] at this; exact this
  · have := step_read h1; rw [h2] at this; exact this
  · have e := bs_step (fromT s)
    have e2 := congrArg List.length e
    rw [h2, bs_len] at e2
    have e3 := namesS_size h4 hnm
    simp only [List.length_append, List.length_cons, bs_len] at e2
    split at e2 <;> simp at e2 <;> omega
end Go.Proofs.YthdfefgianokgaaDoor

/- What the program and the reference read from a text. No program in sight. -/
namespace Go.Proofs.YthdfefgianokgaaDoor
open Go.RowKit

theorem suf_rest (s : Str) : Lib.trimSuffix (bs s) [33] = restL s ∧ Lib.hasSuffix (bs s) [33] = !undoL s := by
  unfold restL undoL Lib.trimSuffix Lib.hasSuffix
  generalize bs s = q
  by_cases h : q.getLast? = some 33
  · obtain ⟨t, rfl⟩ := List.getLast?_eq_some_iff.1 h
    have h1 : List.isSuffixOf [33] (t ++ [(33 : UInt8)]) = true := List.isSuffixOf_iff_suffix.2 ⟨t, rfl⟩
    have hne : t ++ [(33 : UInt8)] ≠ [] := by simp
    rw [h1, if_pos rfl, if_pos ⟨hne, h⟩, decide_eq_true h]
    simp
  · have h1 : List.isSuffixOf [33] q = false := by
      cases hx : List.isSuffixOf [33] q
      · rfl
      · obtain ⟨t, e⟩ := List.isSuffixOf_iff_suffix.1 hx
        exact absurd (by rw [← e]; exact List.getLast?_concat ..) h
    rw [h1, if_neg (by simp), if_neg (fun hc => h hc.2), decide_eq_false h]
    exact ⟨rfl, rfl⟩
theorem splitB_cut (b : UInt8) (s : Str) : (Lib.splitB ⟨#[b]⟩ 0 (Lib.countB s ⟨#[b]⟩) s) = (cutW b (bs s)).map ofBs := by
  have h := Lib.splitB_data ⟨#[b]⟩ 0 (Lib.countB s ⟨#[b]⟩) s
  have h2 : Lib.splitK [b] 0 (Lib.countB s ⟨#[b]⟩) (bs s) = cutW b (bs s) := split_cut b (bs s)
  rw [← h2]
  have h3 : (Lib.splitB ⟨#[b]⟩ 0 (Lib.countB s ⟨#[b]⟩) s).map (·.data.toList) = Lib.splitK [b] 0 (Lib.countB s ⟨#[b]⟩) (bs s) := h
  rw [← h3, List.map_map]
  have : (ofBs ∘ fun x : ByteArray => x.data.toList) = id := by funext x; exact of_bs x
  rw [this, List.map_id]
theorem countB_cut (b : UInt8) (s : Str) : Lib.countB s ⟨#[b]⟩ + 1 = (cutW b (bs s)).length := (count_cut b (bs s)).symm

/-- What the program reads. -/
def cutI (s : Str) : Bytes × Bytes × Bool := Lib.cut (restL s) [58]
def rdI (s : Str) : Step := readS s (cutI s).1 (cutI s).2.1
theorem cutI_of {s : Str} (h : fromB s = true) : (cutI s).2.2 = true ∧ rdI s = fromT s := by
  obtain ⟨name, after, h1, h2, _, h4, _⟩ := from_words h
  unfold rdI cutI
  rw [h1, cut_hit after h2]
  exact ⟨rfl, h4⟩
theorem fromI_none {s : Str} (h : (cutI s).2.2 = false) : fromB s = false := by
  cases hb : fromB s
  · rfl
  · rw [(cutI_of hb).1] at h; cases h
theorem fromI_ne {s : Str} (h : textS (rdI s) ≠ s) : fromB s = false := by
  cases hb : fromB s
  · rfl
  · obtain ⟨h1, h2⟩ := from_ex hb
    rw [(cutI_of hb).2] at h
    exact absurd (by unfold textS; rw [if_pos h1, h2]) h
theorem fromI_eq {s : Str} (h : (cutI s).2.2 = true) (e : textS (rdI s) = s) : fromB s = true ∧ fromT s = rdI s := by
  cases hb : stepB (rdI s)
  · unfold textS at e
    rw [if_neg (by rw [hb]; simp)] at e
    subst e
    exact absurd h (by decide)
  · unfold textS at e
    rw [if_pos hb] at e
    exact from_yes hb e
/-- What the reference reads. -/
theorem fromS_len {s : Str} (h : (cutW 58 (restL s)).length ≠ 2) : fromB s = false := by
  unfold fromB fromW
  split
  · rename_i a b e
    rw [e] at h
    exact absurd rfl h
  · rfl
theorem fromS_no {s : Str} {a b : Bytes} (h : cutW 58 (restL s) = [a, b]) (hn : ¬ (stepB (readS s a b) = true ∧ stepS (readS s a b) = s)) : fromB s = false := by
  unfold fromB fromW
  rw [h]
  show (if stepB (readS s a b) = true ∧ stepS (readS s a b) = s then some (readS s a b) else none).isSome = false
  rw [if_neg hn]
  rfl
theorem two_of {l : List Bytes} (h : l.length = 2) : ∃ a b, l = [a, b] := by
  match l, h with
  | [a, b], _ => exact ⟨a, b, rfl⟩

/-- A text with a byte more is none. -/
theorem name_last2 {s : Str} (h : nameB s = true) : ∃ k b, lastIs s k b ∧ b ≠ 44 := by
  have h1 := nameB_size h
  refine ⟨s.size - 1, s[s.size - 1]'(by omega), ⟨by omega, fun _ => rfl⟩, ?_⟩
  exact name_no h 44 (by decide) _ (by
    show s.data[s.size - 1]'_ ∈ _
    rw [← Array.getElem_toList]
    exact List.getElem_mem _)
theorem names_last2 {xs : List Str} (h : ∀ j, j < xs.length → nameB (nth xs j) = true) : ∃ k b, lastIs (namesS xs) k b ∧ b ≠ 44 := by
  unfold namesS
  split
  · exact ⟨0, 45, lastIs_one 45, by decide⟩
  · obtain ⟨k, hk⟩ : ∃ k, xs.length = k + 1 := ⟨xs.length - 1, by omega⟩
    obtain ⟨i, b, hi, hb⟩ := name_last2 (h k (by omega))
    rw [hk]
    exact ⟨_, b, lastIs_app hi, hb⟩
theorem step_last2 {t : Step} (h : stepB t = true) : ∃ k b, lastIs (stepS t) k b ∧ b ≠ 44 := by
  obtain ⟨_, _, hnm⟩ := stepB_sizes h
  obtain ⟨k, b, h1, h2⟩ := names_last2 hnm
  unfold stepS
  cases t.undo
  · exact ⟨_, 33, lastIs_app (lastIs_one 33), by decide⟩
  · exact ⟨_, b, lastIs_app h1, h2⟩
theorem lastIs_eq {y : Str} {k j : Nat} {b c : UInt8} (h : lastIs y k b) (g : lastIs y j c) : b = c := by
  have e : k = j := by have := h.1; have := g.1; omega
  subst e
  rw [← h.2 (by have := h.1; omega), ← g.2 (by have := h.1; omega)]
theorem from_comma (s : Str) : fromB (s ++ ⟨#[44]⟩) = false :=
  from_no fun t h e => by
    obtain ⟨k, b, h1, h2⟩ := step_last2 h
    rw [e] at h1
    exact h2 (lastIs_eq h1 (lastIs_app (lastIs_one 44)))
theorem from_space (s : Str) : fromB (⟨#[32]⟩ ++ s) = false :=
  from_no fun t h e => by
    obtain ⟨_, hz, _⟩ := stepB_sizes h
    have hname : nameB t.name = true := by
      unfold stepB at h
      simp only [Bool.and_eq_true] at h
      exact h.1.1.2
    have e1 := congrArg bs e
    rw [bs_step, bs_app] at e1
    cases hx : bs t.name with
    | nil =>
      have h0 : (bs t.name).length = t.name.size := bs_len _
      rw [hx] at h0
      have h1 : t.name.size = 0 := h0.symm
      omega
    | cons c r =>
      rw [hx] at e1
      have e2 : c = 32 := (List.cons.inj e1).1
      exact name_no hname 32 (by decide) c (by rw [hx]; exact List.mem_cons_self ..) e2
end Go.Proofs.YthdfefgianokgaaDoor

/- The program's StepFrom. -/
namespace Go.Proofs.YthdfefgianokgaaDoor
open Go.RowKit

/-- The library's variable holds an int. -/
def HasMax (w : World) : Prop := ∃ m, w.cell? ⟨0, 0, none⟩ = some (.int .i64 m)
theorem HasMax.lt {w : World} (h : HasMax w) : 0 < w.heap.size := by
  obtain ⟨m, hm⟩ := h
  rcases Nat.lt_or_ge 0 w.heap.size with h | h
  · exact h
  · have : w.heap[0]? = none := Array.getElem?_eq_none h
    simp [World.cell?, this] at hm
theorem HasMax.below {w w' : World} {B : Nat} (h : HasMax w) (hb : Below B w w') (hB : B = w.heap.size) : HasMax w' := by
  have hl := h.lt
  obtain ⟨m, hm⟩ := h
  exact ⟨m, (hb.cell (p := ⟨0, 0, none⟩) (by rw [hB]; exact hl)).trans hm⟩

theorem sstr_none (w : World) (lo : Nat) : SStr w lo none 0 [] := ⟨rfl, fun h => absurd h (by omega)⟩
theorem nth_map_ofBs (l : List Bytes) (j : Nat) (h : j < l.length) : nth (l.map ofBs) j = ofBs l[j] := by
  rw [nth_eq (by simpa using h)]
  simp
theorem restL_len (s : Str) : (restL s).length ≤ s.size := by
  unfold restL
  have : (bs s).length = s.size := bs_len s
  split
  · simp; omega
  · omega
theorem cutI_len (s : Str) : (cutI s).1.length ≤ s.size ∧ (cutI s).2.1.length ≤ s.size - 1 := by
  have h := restL_len s
  unfold cutI Lib.cut
  split
  · simp; omega
  · simp; omega
theorem ofBs_size (l : Bytes) : (ofBs l).size = l.length := by simp [ofBs, ByteArray.size]
theorem read_sizes (s : Str) : (rdI s).name.size ≤ s.size ∧ (rdI s).after.length ≤ s.size - 1 + 1 ∧ ∀ j, j < (rdI s).after.length → (nth (rdI s).after j).size ≤ s.size := by
  obtain ⟨h1, h2⟩ := cutI_len s
  unfold rdI readS
  refine ⟨by rw [ofBs_size]; exact h1, ?_, ?_⟩
  · show (if (cutI s).2.1 = [45] then [] else (cutW 44 (cutI s).2.1).map ofBs).length ≤ _
    split
    · simp
    · have := cutW_len 44 (cutI s).2.1
      simp; omega
  · show ∀ j, j < (if (cutI s).2.1 = [45] then [] else (cutW 44 (cutI s).2.1).map ofBs).length → (nth (if (cutI s).2.1 = [45] then [] else (cutW 44 (cutI s).2.1).map ofBs) j).size ≤ _
    split
    · intro j hj; simp at hj
    · intro j hj
      rw [List.length_map] at hj
      rw [nth_map_ofBs _ j hj, ofBs_size]
      have := cutW_mem 44 (cutI s).2.1 _ (List.getElem_mem hj)
      omega
theorem sstr_block {w : World} {b : Nat} {xs : List Str} (h : w.heap[b]? = some (.cells (xs.map Value.string).toArray 9 (0, 0))) : SStr w b (some ⟨b, 0, none⟩) xs.length xs :=
  ⟨rfl, fun _ => ⟨b, _, rfl, Nat.le_refl _, h, fun j hj => by simp [List.getElem?_eq_getElem hj, nth_eq hj]⟩⟩
theorem SStr.set {w : World} {base b o n : Nat} {A : Option Addr} {xs : List Str} {u : Value} (h : SStr w base A n xs) (hb : b < base) : SStr (w.setCell ⟨b, o, none⟩ u) base A n xs :=
  h.kept fun b' _ h1 _ => Below.heap_setCell w ⟨b, o, none⟩ u b' (by intro e; simp at e; omega)
theorem okStep_rdI {s : Str} (h : s.size ≤ 1048576) : okStep (rdI s) := by
  obtain ⟨h1, h2, h3⟩ := read_sizes s
  have hm : 1048576 ≤ maxLen := by unfold maxLen; omega
  exact ⟨by omega, by omega, fun j hj => by have := h3 j hj; omega⟩
theorem toList_bs (s : Str) : s.toList = bs s := by rw [ByteArray.toList_eq]; rfl
theorem str_ne (a b : Str) : (a.toList != b.toList) = !decide (a = b) := by
  by_cases h : a = b
  · subst h; simp
  · have : a.toList ≠ b.toList := fun e => h (by rw [toList_bs, toList_bs] at e; have := congrArg ofBs e; rwa [of_bs, of_bs] at this)
    simp [h, this]

theorem stepS_small {s : Step} (h : stepB s = true) : (stepS s).size ≤ 100 ∧ 0 < (stepS s).size := by
  obtain ⟨k, b, hm⟩ := mark_ex h
  exact ⟨hm.small, by have := hm.last.1; omega⟩
theorem ne_empty {y : Str} (h : 0 < y.size) : (y.toList == ([] : List UInt8)) = false := by
  rw [beq_eq_false_iff_ne]
  intro e
  have e2 : y.toList.length = y.size := by rw [ByteArray.toList_eq]; rfl
  rw [e] at e2
  simp at e2
  omega

set_option maxRecDepth 100000 in
theorem stepFromI_any (s : Str) (w : World) (hs : s.size ≤ 1048576) (hm : HasMax w) :
    Calls Tryd.prog 13 #[.string s] w fun e w' => ∃ A n c, e = .returned (.tuple #[.agg #[.string (fromT s).name, .slice A n c, .bool (fromT s).undo], .bool (fromB s)]) ∧ SStr w' w.heap.size A n (fromT s).after ∧ n ≤ c ∧ Below w.heap.size w w' := by
  have HM := Lib.hid hm; clear hm
  have hp := suf_rest s
  go_enter Tryd.func13, Tryd.ntmps13
  go_wp2_with fail
  refine (Tryd.strings_CutSuffix s ⟨#[33]⟩ _ (by omega)).mono ?_
  rintro e w1 ⟨rfl, rfl⟩
  rw [show Lib.trimSuffix s.data.toList (⟨#[33]⟩ : ByteArray).data.toList = restL s from hp.1, show Lib.hasSuffix s.data.toList (⟨#[33]⟩ : ByteArray).data.toList = !undoL s from hp.2]
  clear hp
  have HB0 := Lib.hid ((Below.refl w.heap.size w).alloc (Nat.le_refl _) (.cells #[.string ⟨#[]⟩, .slice none 0 0, .bool false] 25))
  have HX0 := Lib.hid (heap_new (w := w) (o := .cells #[.string ⟨#[]⟩, .slice none 0 0, .bool false] 25) rfl)
  go_wp2_with fail
  obtain ⟨m, hm⟩ := HM.out.below HB0.out rfl
  have hl := restL_len s
  refine (Tryd.strings_Cut ⟨(restL s).toArray⟩ ⟨#[58]⟩ m _ (by show (restL s).toArray.size < _; simp; omega) hm).mono ?_
  rintro e w1 ⟨rfl, nd, rfl⟩
  clear hm
  rw [show Lib.cut (⟨(restL s).toArray⟩ : ByteArray).data.toList (⟨#[58]⟩ : ByteArray).data.toList = cutI s from rfl]
  have hD : Below w.heap.size w ((w.alloc (.cells #[.string ⟨#[]⟩, .slice none 0 0, .bool false] 25)).drewN nd) := below_drewN HB0.out _
  have hXD : ((w.alloc (.cells #[.string ⟨#[]⟩, .slice none 0 0, .bool false] 25)).drewN nd).heap[w.heap.size]? = some (.cells #[.string ⟨#[]⟩, .slice none 0 0, .bool false] 25 (0, 0)) := by rw [World.heap_drewN]; exact HX0.out
  have hsz : ((w.alloc (.cells #[.string ⟨#[]⟩, .slice none 0 0, .bool false] 25)).drewN nd).heap.size = w.heap.size + 1 := by rw [World.heap_drewN]; simp
  generalize ((w.alloc (.cells #[.string ⟨#[]⟩, .slice none 0 0, .bool false] 25)).drewN nd) = wd at *
  have HBD := Lib.hid hD; clear hD
  have HXD := Lib.hid hXD; clear hXD
  clear HB0 HX0
  cases hok : (cutI s).2.2
  · have HF := Lib.hid (fromI_none hok)
    have r0a := (blk_cl (k := 0) HXD.out rfl).1
    have r0b := (blk_cl (k := 0) HXD.out rfl).2
    have r1a := (blk_cl (k := 1) HXD.out rfl).1
    have r1b := (blk_cl (k := 1) HXD.out rfl).2
    have r2a := (blk_cl (k := 2) HXD.out rfl).1
    have r2b := (blk_cl (k := 2) HXD.out rfl).2
    go_wp2_with fail
    have hres := set3 (u0 := .string ⟨#[]⟩) (u1 := .slice none 0 0) (u2 := .bool false) HXD.out
    have e0 := (blk_cl (k := 0) hres rfl).1
    have e1 := (blk_cl (k := 1) hres rfl).1
    have e2 := (blk_cl (k := 2) hres rfl).1
    refine bodyPost_ret (v := .tuple #[.agg #[.string ⟨#[]⟩, .slice none 0 0, .bool false], .bool false]) (by simp [results, Tryd.results13, go_sem, e0, e1, e2]) rfl ⟨none, 0, 0, ?_, ?_, Nat.le_refl _, ?_⟩
    · rw [from_not HF.out, HF.out]; rfl
    · rw [from_not HF.out]; exact sstr_none _ _
    · exact ((HBD.out.setCell (p := ⟨w.heap.size, 0, none⟩) (Nat.le_refl _) _).setCell (p := ⟨w.heap.size, 1, none⟩) (Nat.le_refl _) _).setCell (p := ⟨w.heap.size, 2, none⟩) (Nat.le_refl _) _
  · have HOK := Lib.hid (okStep_rdI hs)
    have HAY := Lib.hid (show (rdI s).after = if (cutI s).2.1 = [45] then [] else (cutW 44 (cutI s).2.1).map ofBs from rfl)
    by_cases hy : (cutI s).2.1 = [45]
    · have hq : ((cutI s).2.1 == [45]) = true := beq_iff_eq.2 hy
      have HA0 := Lib.hid (show (rdI s).after = [] by rw [HAY.out, if_pos hy])
      have HY0 := Lib.hid (heap_new (w := wd) (o := .cells #[.string ⟨(cutI s).1.toArray⟩, .slice none 0 0, .bool (undoL s)] 25) rfl)
      have HB1 := Lib.hid (HBD.out.alloc HBD.out.size (.cells #[.string ⟨(cutI s).1.toArray⟩, .slice none 0 0, .bool (undoL s)] 25))
      have HX1 := Lib.hid (heap_old (o := .cells #[.string ⟨(cutI s).1.toArray⟩, .slice none 0 0, .bool (undoL s)] 25) HXD.out)
      go_wp2_with fail
      refine (stepTextI_any none 0 0 (rdI s) w.heap.size _ (by rw [HA0.out]; exact (sstr_none _ _).hat) HOK.out (Nat.le_refl _)).mono ?_
      rintro e w2 ⟨rfl, hb2⟩
      have hx2 := (hb2.block _ (heap_lt HX1.out)).trans HX1.out
      have hy2 := (hb2.block _ (heap_lt HY0.out)).trans HY0.out
      rw [hsz] at hy2
      have HB2 := Lib.hid (HB1.out.trans (hb2.mono HB1.out.size))
      have HSS := Lib.hid (show SStr w2 w.heap.size none 0 (rdI s).after by rw [HA0.out]; exact sstr_none _ _)
      clear hb2 HX1 HY0 HB1 hq hy
      generalize eT : textS (rdI s) = T
      have r0a := (blk_cl (k := 0) hx2 rfl).1
      have r0b := (blk_cl (k := 0) hx2 rfl).2
      have r1a := (blk_cl (k := 1) hx2 rfl).1
      have r1b := (blk_cl (k := 1) hx2 rfl).2
      have r2a := (blk_cl (k := 2) hx2 rfl).1
      have r2b := (blk_cl (k := 2) hx2 rfl).2
      have y0a := (blk_cl (k := 0) hy2 rfl).1
      have y1a := (blk_cl (k := 1) hy2 rfl).1
      have y2a := (blk_cl (k := 2) hy2 rfl).1
      have HX2 := Lib.hid hx2
      clear hx2 hy2
      by_cases hT : T = s
      · have HT := Lib.hid (fromI_eq hok (eT.trans hT))
        have q0 : (T.toList == s.toList) = true := by rw [hT]; simp
        clear hT eT
        go_wp2_with fail
        have hres := set3 (u0 := .string ⟨(cutI s).1.toArray⟩) (u1 := .slice none 0 0) (u2 := .bool (undoL s)) HX2.out
        have e0 := (blk_cl (k := 0) hres rfl).1
        have e1 := (blk_cl (k := 1) hres rfl).1
        have e2 := (blk_cl (k := 2) hres rfl).1
        refine bodyPost_ret (v := .tuple #[.agg #[.string ⟨(cutI s).1.toArray⟩, .slice none 0 0, .bool (undoL s)], .bool true]) (by simp [results, Tryd.results13, go_sem, e0, e1, e2]) rfl ⟨none, 0, 0, ?_, ?_, Nat.le_refl _, ?_⟩
        · rw [HT.out.1, HT.out.2]; rfl
        · rw [HT.out.2, HA0.out]; exact sstr_none _ _
        · exact ((HB2.out.setCell (p := ⟨w.heap.size, 0, none⟩) (Nat.le_refl _) _).setCell (p := ⟨w.heap.size, 1, none⟩) (Nat.le_refl _) _).setCell (p := ⟨w.heap.size, 2, none⟩) (Nat.le_refl _) _
      · have HF := Lib.hid (fromI_ne (s := s) (by rw [eT]; exact hT))
        have q0 : (T.toList == s.toList) = false := by
          rw [beq_eq_false_iff_ne]
          intro e
          rw [toList_bs, toList_bs] at e
          exact hT (by have := congrArg ofBs e; rwa [of_bs, of_bs] at this)
        clear hT eT
        go_wp2_with fail
        have hres := set3 (u0 := .string ⟨#[]⟩) (u1 := .slice none 0 0) (u2 := .bool false) HX2.out
        have e0 := (blk_cl (k := 0) hres rfl).1
        have e1 := (blk_cl (k := 1) hres rfl).1
        have e2 := (blk_cl (k := 2) hres rfl).1
        refine bodyPost_ret (v := .tuple #[.agg #[.string ⟨#[]⟩, .slice none 0 0, .bool false], .bool false]) (by simp [results, Tryd.results13, go_sem, e0, e1, e2]) rfl ⟨none, 0, 0, ?_, ?_, Nat.le_refl _, ?_⟩
        · rw [from_not HF.out, HF.out]; rfl
        · rw [from_not HF.out]; exact sstr_none _ _
        · exact ((HB2.out.setCell (p := ⟨w.heap.size, 0, none⟩) (Nat.le_refl _) _).setCell (p := ⟨w.heap.size, 1, none⟩) (Nat.le_refl _) _).setCell (p := ⟨w.heap.size, 2, none⟩) (Nat.le_refl _) _
    · have hq : ((cutI s).2.1 == [45]) = false := beq_eq_false_iff_ne.2 hy
      have HA1 := Lib.hid (show (rdI s).after = (cutW 44 (cutI s).2.1).map ofBs by rw [HAY.out, if_neg hy])
      have HY0 := Lib.hid (heap_new (w := wd) (o := .cells #[.string ⟨(cutI s).1.toArray⟩, .slice none 0 0, .bool (undoL s)] 25) rfl)
      have HB1 := Lib.hid (HBD.out.alloc HBD.out.size (.cells #[.string ⟨(cutI s).1.toArray⟩, .slice none 0 0, .bool (undoL s)] 25))
      have HX1 := Lib.hid (heap_old (o := .cells #[.string ⟨(cutI s).1.toArray⟩, .slice none 0 0, .bool (undoL s)] 25) HXD.out)
      have hl2 := (cutI_len s).2
      go_wp2_with fail
      obtain ⟨m2, hm2⟩ := HM.out.below HB1.out rfl
      refine (Tryd.strings_Split ⟨(cutI s).2.1.toArray⟩ ⟨#[44]⟩ m2 _ (by show (cutI s).2.1.toArray.size < _; simp; omega) hm2 (by decide)).mono ?_
      rintro e w1 ⟨rfl, rfl⟩
      clear hm2
      have hcnt : Lib.countB (⟨(cutI s).2.1.toArray⟩ : ByteArray) ⟨#[44]⟩ + 1 = (rdI s).after.length := by
        have := countB_cut 44 (ofBs (cutI s).2.1)
        rw [bs_of] at this
        rw [HA1.out, List.length_map]
        exact this
      have hspl : Lib.splitB ⟨#[44]⟩ 0 (Lib.countB (⟨(cutI s).2.1.toArray⟩ : ByteArray) ⟨#[44]⟩) ⟨(cutI s).2.1.toArray⟩ = (rdI s).after := by
        have := splitB_cut 44 (ofBs (cutI s).2.1)
        rw [bs_of] at this
        rw [HA1.out]
        exact this
      rw [hcnt, hspl]
      have hsz1 : (wd.alloc (.cells #[.string ⟨(cutI s).1.toArray⟩, .slice none 0 0, .bool (undoL s)] 25)).heap.size = w.heap.size + 1 + 1 := by rw [World.size_alloc, hsz]
      rw [hsz1]
      have hz3 := heap_new (w := wd.alloc (.cells #[.string ⟨(cutI s).1.toArray⟩, .slice none 0 0, .bool (undoL s)] 25)) (o := .cells ((rdI s).after.map Value.string).toArray 9) (b := w.heap.size + 1 + 1) hsz1.symm
      have hy3 := heap_old (o := .cells ((rdI s).after.map Value.string).toArray 9) HY0.out
      rw [hsz] at hy3
      have hx3 := heap_old (o := .cells ((rdI s).after.map Value.string).toArray 9) HX1.out
      have hb3 := HB1.out.alloc HB1.out.size (.cells ((rdI s).after.map Value.string).toArray 9)
      generalize (wd.alloc (.cells #[.string ⟨(cutI s).1.toArray⟩, .slice none 0 0, .bool (undoL s)] 25)).alloc (.cells ((rdI s).after.map Value.string).toArray 9) = w3 at *
      have HS3 := Lib.hid (sstr_block hz3)
      have HX3 := Lib.hid hx3
      have HY3 := Lib.hid hy3
      have HB3 := Lib.hid hb3
      clear hz3 hx3 hy3 hb3 hcnt hspl hsz1 HX1 HY0 HB1
      have y0a := (blk_cl (k := 0) HY3.out rfl).1
      have y1a := (blk_cl (k := 1) HY3.out rfl).1
      have y1b := (blk_cl (k := 1) HY3.out rfl).2
      have y2a := (blk_cl (k := 2) HY3.out rfl).1
      have HCC := Lib.hid (Nat.le_refl (rdI s).after.length)
      go_wp2_with fail
      have hy4 := set31 (u := .slice (some ⟨w.heap.size + 1 + 1, 0, none⟩) (rdI s).after.length (rdI s).after.length) HY3.out
      have hx4 : (w3.setCell ⟨w.heap.size + 1, 1, none⟩ (.slice (some ⟨w.heap.size + 1 + 1, 0, none⟩) (rdI s).after.length (rdI s).after.length)).heap[w.heap.size]? = some (.cells #[.string ⟨#[]⟩, .slice none 0 0, .bool false] 25 (0, 0)) := (Below.heap_setCell w3 ⟨w.heap.size + 1, 1, none⟩ _ w.heap.size (by intro e; simp at e)).trans HX3.out
      have hb4 := HB3.out.setCell (p := ⟨w.heap.size + 1, 1, none⟩) (Nat.le_succ _) (.slice (some ⟨w.heap.size + 1 + 1, 0, none⟩) (rdI s).after.length (rdI s).after.length)
      have hs4 := HS3.out.set (o := 1) (u := .slice (some ⟨w.heap.size + 1 + 1, 0, none⟩) (rdI s).after.length (rdI s).after.length) (Nat.lt_succ_self _)
      generalize w3.setCell ⟨w.heap.size + 1, 1, none⟩ (.slice (some ⟨w.heap.size + 1 + 1, 0, none⟩) (rdI s).after.length (rdI s).after.length) = w4 at *
      refine (stepTextI_any _ _ _ (rdI s) _ w4 hs4.hat HOK.out (Nat.le_refl _)).mono ?_
      rintro e w2 ⟨rfl, hb2⟩
      have hx2 := (hb2.block _ (heap_lt hx4)).trans hx4
      have hy2 := (hb2.block _ (heap_lt hy4)).trans hy4
      have HB2 := Lib.hid (hb4.trans (hb2.mono hb4.size))
      have HSS := Lib.hid (hs4.below hb2)
      clear hb2 hx4 hy4 hb4 hs4 HX3 HY3 HB3 HS3 y0a y1a y1b y2a hq hy
      generalize eT : textS (rdI s) = T
      have r0a := (blk_cl (k := 0) hx2 rfl).1
      have r0b := (blk_cl (k := 0) hx2 rfl).2
      have r1a := (blk_cl (k := 1) hx2 rfl).1
      have r1b := (blk_cl (k := 1) hx2 rfl).2
      have r2a := (blk_cl (k := 2) hx2 rfl).1
      have r2b := (blk_cl (k := 2) hx2 rfl).2
      have y0a := (blk_cl (k := 0) hy2 rfl).1
      have y1a := (blk_cl (k := 1) hy2 rfl).1
      have y2a := (blk_cl (k := 2) hy2 rfl).1
      have HX2 := Lib.hid hx2
      clear hx2 hy2
      by_cases hT : T = s
      · have HT := Lib.hid (fromI_eq hok (eT.trans hT))
        have q0 : (T.toList == s.toList) = true := by rw [hT]; simp
        clear hT eT
        go_wp2_with fail
        have hres := set3 (u0 := .string ⟨(cutI s).1.toArray⟩) (u1 := .slice (some ⟨w.heap.size + 1 + 1, 0, none⟩) (rdI s).after.length (rdI s).after.length) (u2 := .bool (undoL s)) HX2.out
        have e0 := (blk_cl (k := 0) hres rfl).1
        have e1 := (blk_cl (k := 1) hres rfl).1
        have e2 := (blk_cl (k := 2) hres rfl).1
        refine bodyPost_ret (v := .tuple #[.agg #[.string ⟨(cutI s).1.toArray⟩, .slice (some ⟨w.heap.size + 1 + 1, 0, none⟩) (rdI s).after.length (rdI s).after.length, .bool (undoL s)], .bool true]) (by simp [results, Tryd.results13, go_sem, e0, e1, e2]) rfl ⟨some ⟨w.heap.size + 1 + 1, 0, none⟩, (rdI s).after.length, (rdI s).after.length, ?_, ?_, Nat.le_refl _, ?_⟩
        · rw [HT.out.1, HT.out.2]; rfl
        · rw [HT.out.2]; exact (((HSS.out.set (by omega)).set (by omega)).set (by omega)).mono (by omega)
        · exact ((HB2.out.setCell (p := ⟨w.heap.size, 0, none⟩) (Nat.le_refl _) _).setCell (p := ⟨w.heap.size, 1, none⟩) (Nat.le_refl _) _).setCell (p := ⟨w.heap.size, 2, none⟩) (Nat.le_refl _) _
      · have HF := Lib.hid (fromI_ne (s := s) (by rw [eT]; exact hT))
        have q0 : (T.toList == s.toList) = false := by
          rw [beq_eq_false_iff_ne]
          intro e
          rw [toList_bs, toList_bs] at e
          exact hT (by have := congrArg ofBs e; rwa [of_bs, of_bs] at this)
        clear hT eT
        go_wp2_with fail
        have hres := set3 (u0 := .string ⟨#[]⟩) (u1 := .slice none 0 0) (u2 := .bool false) HX2.out
        have e0 := (blk_cl (k := 0) hres rfl).1
        have e1 := (blk_cl (k := 1) hres rfl).1
        have e2 := (blk_cl (k := 2) hres rfl).1
        refine bodyPost_ret (v := .tuple #[.agg #[.string ⟨#[]⟩, .slice none 0 0, .bool false], .bool false]) (by simp [results, Tryd.results13, go_sem, e0, e1, e2]) rfl ⟨none, 0, 0, ?_, ?_, Nat.le_refl _, ?_⟩
        · rw [from_not HF.out, HF.out]; rfl
        · rw [from_not HF.out]; exact sstr_none _ _
        · exact ((HB2.out.setCell (p := ⟨w.heap.size, 0, none⟩) (Nat.le_refl _) _).setCell (p := ⟨w.heap.size, 1, none⟩) (Nat.le_refl _) _).setCell (p := ⟨w.heap.size, 2, none⟩) (Nat.le_refl _) _
end Go.Proofs.YthdfefgianokgaaDoor

/- Steps whose lists have room: length at most capacity. -/
namespace Go.Proofs.YthdfefgianokgaaDoor
open Go.RowKit

/-- Each step's list has a length of at most its capacity. -/
def CapS (w : World) (A : Option Addr) (n : Nat) : Prop :=
  ∀ b off, A = some ⟨b, off, none⟩ → ∀ k, k < n → ∃ A' n' c', w.cell? ⟨b, off + k * 3 + 1, none⟩ = some (.slice A' n' c') ∧ n' ≤ c'
theorem cell_lt {w : World} {p : Addr} {v : Value} (h : w.cell? p = some v) : p.block < w.heap.size := by
  rcases Nat.lt_or_ge p.block w.heap.size with h1 | h1
  · exact h1
  · unfold World.cell? at h
    rw [Array.getElem?_eq_none h1] at h
    cases h
theorem CapS.zero {w : World} {A : Option Addr} : CapS w A 0 := fun _ _ _ _ hk => absurd hk (by omega)
theorem CapS.cells {w w' : World} {A : Option Addr} {n : Nat} (h : CapS w A n) (hk : ∀ b off j, A = some ⟨b, off, none⟩ → b < w.heap.size → w'.cell? ⟨b, j, none⟩ = w.cell? ⟨b, j, none⟩) : CapS w' A n := fun b off e k hkn => by
  obtain ⟨A', n', c', h1, h2⟩ := h b off e k hkn
  exact ⟨A', n', c', (hk b off _ e (cell_lt h1)).trans h1, h2⟩
theorem CapS.below {w w' : World} {A : Option Addr} {n : Nat} (h : CapS w A n) (hb : Below w.heap.size w w') : CapS w' A n :=
  h.cells fun b _ j _ hlt => hb.cell (p := ⟨b, j, none⟩) hlt
theorem CapS.alloc {w : World} {A : Option Addr} {n : Nat} (h : CapS w A n) (o : Obj) : CapS (w.alloc o) A n := h.below ((Below.refl _ _).alloc (Nat.le_refl _) o)
theorem CapS.drew {w : World} {A : Option Addr} {n : Nat} (h : CapS w A n) : CapS w.drew A n := h
theorem CapS.on {w w' : World} {b off n g : Nat} (h : CapS w (some ⟨b, off, none⟩) n) (ho : On g w w') (hne : b ≠ g) : CapS w' (some ⟨b, off, none⟩) n :=
  h.cells fun b' off' j e hlt => by
    injection e with e; injection e with e1 e2
    subst e1
    exact ho.cell hlt hne
theorem CapS.setNe {w : World} {b off n b' o : Nat} {u : Value} (h : CapS w (some ⟨b, off, none⟩) n) (hne : b ≠ b') : CapS (w.setCell ⟨b', o, none⟩ u) (some ⟨b, off, none⟩) n :=
  h.cells fun b1 off1 j e _ => by
    injection e with e; injection e with e1 e2
    subst e1
    exact World.cell?_setCell_other w ⟨b', o, none⟩ ⟨b, j, none⟩ u (fun e => by injection e with e1 _; omega)
theorem CapS.setSl {w : World} {A B : Option Addr} {n m d : Nat} (h : CapS w A n) (hmd : m ≤ d) (b' o : Nat) : CapS (w.setCell ⟨b', o, none⟩ (.slice B m d)) A n := fun b off e k hk => by
  obtain ⟨A', n', c', h1, h2⟩ := h b off e k hk
  by_cases heq : (⟨b', o, none⟩ : Addr) = ⟨b, off + k * 3 + 1, none⟩
  · rw [heq]
    exact ⟨B, m, d, World.cell?_setCell_same w _ _ h1, hmd⟩
  · exact ⟨A', n', c', (World.cell?_setCell_other w ⟨b', o, none⟩ ⟨b, off + k * 3 + 1, none⟩ _ (fun e => heq (by first | exact e | exact e.symm))).trans h1, h2⟩
/-- A cell that holds no list is written. -/
theorem CapS.setPlain {w : World} {A : Option Addr} {n b' o : Nat} {u v : Value} (h : CapS w A n) (h0 : w.cell? ⟨b', o, none⟩ = some v) (hv : ∀ B m d, v ≠ .slice B m d) : CapS (w.setCell ⟨b', o, none⟩ u) A n := fun b off e k hk => by
  obtain ⟨A', n', c', h1, h2⟩ := h b off e k hk
  exact ⟨A', n', c', (World.cell?_setCell_other w ⟨b', o, none⟩ ⟨b, off + k * 3 + 1, none⟩ _ (fun e => hv A' n' c' (by
    have e2 : (⟨b', o, none⟩ : Addr) = ⟨b, off + k * 3 + 1, none⟩ := by first | exact e | exact e.symm
    rw [e2, h1] at h0
    exact (Option.some.inj h0).symm))).trans h1, h2⟩
/-- A cell below the steps is written. -/
theorem CapS.setPlain2 {w : World} {A : Option Addr} {n lo b' o : Nat} {ss : List Step} {u : Value} (h : CapS w A n) (hr : RStep w lo A n ss) (hb : b' < lo) : CapS (w.setCell ⟨b', o, none⟩ u) A n := fun b off e k hk => by
  obtain ⟨b1, off1, e1, h1, _, _⟩ := hr.2 (by omega)
  subst e1
  injection e with e; injection e with e2 e3
  subst e2; subst e3
  exact CapS.setNe h (by omega) _ _ rfl k hk
/-- One step more is written. -/
theorem CapS.put {w : World} {b j m d : Nat} {B : Option Addr} {s u v0 : Value} (h : CapS w (some ⟨b, 0, none⟩) j) (hc : w.cell? ⟨b, j * 3 + 1, none⟩ = some v0) (hmd : m ≤ d) :
    CapS (((w.setCell ⟨b, j * 3, none⟩ s).setCell ⟨b, j * 3 + 1, none⟩ (.slice B m d)).setCell ⟨b, j * 3 + 2, none⟩ u) (some ⟨b, 0, none⟩) (j + 1) := fun b1 off e k hk => by
  injection e with e; injection e with e1 e2
  subst e1; subst e2
  rw [World.cell?_setCell_other _ _ _ _ (fun e => by injection e; omega)]
  by_cases hkj : k = j
  · subst hkj
    rw [Nat.zero_add]
    exact ⟨B, m, d, World.cell?_setCell_same _ _ _ ((World.cell?_setCell_other _ _ _ _ (fun e => by injection e; omega)).trans hc), hmd⟩
  · rw [World.cell?_setCell_other _ _ _ _ (fun e => by injection e; omega), World.cell?_setCell_other _ _ _ _ (fun e => by injection e; omega)]
    exact h b 0 rfl k (by omega)
/-- What a step's cell says. -/
theorem CapS.le {w : World} {b off n k n' c' : Nat} {A' : Option Addr} (h : CapS w (some ⟨b, off, none⟩) n) (hk : k < n) (hc : w.cell? ⟨b, off + k * 3 + 1, none⟩ = some (.slice A' n' c')) : n' ≤ c' := by
  obtain ⟨A1, n1, c1, h1, h2⟩ := h b off rfl k hk
  rw [hc] at h1
  injection h1 with h1; injection h1 with _ e1 e2
  subst e1; subst e2
  exact h2

/-- A row of steps of the call's own, their lists too. -/
def SRowC (w : World) (base : Nat) (v : Value) (n : Nat) (ss : List Step) : Prop :=
  ∃ ps : List (Step × Value), ps.map (·.1) = ss ∧ w.ownsRow base 25 3 v n (ps.flatMap pcells) ∧ ∀ p ∈ ps, ∃ A m c, p.2 = .slice A m c ∧ SStr w base A m p.1.after ∧ m ≤ c
theorem SRowC.len {w : World} {base n : Nat} {v : Value} {ss : List Step} (h : SRowC w base v n ss) : ss.length = n := by
  obtain ⟨ps, rfl, h1, _⟩ := h
  have := h1.1
  rw [flat_len pcells_len] at this
  simp; omega
theorem SRowC.kept {w w' : World} {base n : Nat} {v : Value} {ss : List Step} (h : SRowC w base v n ss) (hk : ∀ b cs t, base ≤ b → w.heap[b]? = some (.cells cs t (0, 0)) → t = 9 ∨ t = 25 → w'.heap[b]? = w.heap[b]?) : SRowC w' base v n ss := by
  obtain ⟨ps, e, h1, h2⟩ := h
  refine ⟨ps, e, ?_, fun p hp => ?_⟩
  · refine ⟨h1.1, ?_⟩
    rcases h1.2 with hn | ⟨g, cap, cur, hv, hb, hg, hr⟩
    · exact .inl hn
    · exact .inr ⟨g, cap, cur, hv, hb, (hk g cur _ hb hg (.inr rfl)).trans hg, hr⟩
  · obtain ⟨A, m, c, e2, h3, h4⟩ := h2 p hp
    exact ⟨A, m, c, e2, h3.kept fun b cs hb hc => hk b cs _ hb hc (.inl rfl), h4⟩
theorem SRowC.on {w w' : World} {base n g : Nat} {v : Value} {ss : List Step} (h : SRowC w base v n ss) (ho : On g w w') (hg : g < base) : SRowC w' base v n ss :=
  h.kept fun b cs _ hb hc _ => ho.block b (heap_lt hc) (by intro e; injection e; omega)
theorem SRowC.below {w w' : World} {base n : Nat} {v : Value} {ss : List Step} (h : SRowC w base v n ss) (hb : Below w.heap.size w w') : SRowC w' base v n ss :=
  h.kept fun b _ _ _ hc _ => hb.block b (heap_lt hc)
theorem SRowC.set {w : World} {base n b o : Nat} {v u : Value} {ss : List Step} {cs : Array Value} {t : TypeId} (h : SRowC w base v n ss) (hb : w.heap[b]? = some (.cells cs t (0, 0))) (h1 : t ≠ 9) (h2 : t ≠ 25) :
    SRowC (w.setCell ⟨b, o, none⟩ u) base v n ss :=
  h.kept fun b' cs' t' _ hc ht => Below.heap_setCell w ⟨b, o, none⟩ u b' (by
    intro e
    subst e
    rw [hc] at hb
    have := Option.some.inj hb
    injection this with _ e2
    rcases ht with ht | ht <;> subst ht
    · exact h1 e2.symm
    · exact h2 e2.symm)
theorem SRowC.made {w : World} {base b : Nat} (hb : base ≤ w.heap.size) (e : b = w.heap.size) : SRowC (w.alloc (.cells #[] 25)) base (.slice (some ⟨b, 0, none⟩) 0 0) 0 [] := by
  subst e
  exact ⟨[], rfl, World.ownsRow_made w #[] 0 hb (Nat.zero_le _) rfl, fun p hp => by cases hp⟩
theorem SRowC.lt {w : World} {base n b : Nat} {A : Option Addr} {c : Nat} {ss : List Step} (h : SRowC w base (.slice A n c) n ss) (hA : (Value.slice A n c).ownBlock = some b) : base ≤ b ∧ b < w.heap.size := by
  obtain ⟨ps, _, h1, _⟩ := h
  exact h1.lt b hA
theorem SRowC.ne {w : World} {base n b : Nat} {v : Value} {ss : List Step} {cs : Array Value} {t : TypeId} {fr : Nat × Nat} (h : SRowC w base v n ss) (hb : w.heap[b]? = some (.cells cs t fr)) (ht : 25 ≠ t) : v.ownBlock ≠ some b := by
  obtain ⟨ps, _, h1, _⟩ := h
  exact row_ne h1 hb ht
theorem SRowC.row {w : World} {base n : Nat} {v : Value} {ss : List Step} (h : SRowC w base v n ss) : SRow w base v n ss := by
  obtain ⟨ps, e, h1, h2⟩ := h
  refine ⟨ps, e, h1, fun p hp => ?_⟩
  obtain ⟨A, m, c, e2, h3, _⟩ := h2 p hp
  exact ⟨A, m, c, e2, h3⟩
theorem SRowC.hat {w : World} {base n : Nat} {v : Value} {ss : List Step} (h : SRowC w base v n ss) : ∃ A c, v = .slice A n c ∧ RStep w base A n ss := h.row.hat
theorem SRowC.caps {w : World} {base n c : Nat} {A : Option Addr} {ss : List Step} (h : SRowC w base (.slice A n c) n ss) : CapS w A n := by
  have hl := h.len
  obtain ⟨ps, rfl, h1, h2⟩ := h
  obtain ⟨A0, c0, hv, hf⟩ := own_form h1
  injection hv with hv1 _ _
  subst hv1
  intro b off e k hk
  obtain ⟨b1, e1, _, _, hc⟩ := hf (by omega)
  rw [e] at e1
  injection e1 with e1; injection e1 with e1 e2
  subst e1; subst e2
  rw [List.length_map] at hl
  have e2 := flat_at (α := Step × Value) (f := pcells) pcells_len ps k 1 (by omega) (by omega)
  rw [nth_eq (by omega)] at e2
  have h3 := (hc (k * 3 + 1) _ (by rw [e2]; rfl)).1
  obtain ⟨A', m, c', e4, _, h5⟩ := h2 (ps[k]'(by omega)) (List.getElem_mem _)
  rw [e4] at h3
  exact ⟨A', m, c', by rw [Nat.zero_add]; exact h3, h5⟩
/-- 'out = append(out, s)', at one operation. -/
theorem wapp_stepC {w : World} {o : Oper} {a : Act} {K : Act → World → Prop} {Q : Exit → Act → World → Prop} (base : Nat) (v : Value) (n : Nat) (ss : List Step) (b : Nat) (s : Step) (A : Option Addr) (m c : Nat) (hown : SRowC w base v n ss) (hs0 : SStr w base A m s.after) (hmc : m ≤ c)
    (l x : Operand) (ho : o.op = .call { callee := .builtin .append, args := #[l, x], argTypes := #[36, 36] })
    (hs : a.eval l = v) (hx : a.eval x = .slice (some ⟨b, 0, none⟩) 1 1) (hb : w.heap[b]? = some (.cells #[.string s.name, .slice A m c, .bool s.undo] 25 (0, 0))) (hn : n ≤ 1048576) (hbase : base ≤ w.heap.size)
    (h : ∀ v' w', SRowC w' base v' (n + 1) (ss ++ [s]) → w.grownBy w' v.ownBlock → (v'.ownBlock = v.ownBlock ∨ v'.ownBlock = some w.heap.size) → K (a.put o.dst v') w') : o.wp Tryd.prog a w K Q := by
  have hN : ∀ (b : Nat) (cs : Array Value), w.heap[b]? = some (Obj.cells cs 9 (0, 0)) → v.ownBlock ≠ some b := fun b cs hc => hown.ne hc (by decide)
  obtain ⟨ps, rfl, h1, h2⟩ := hown
  refine wapp 36 25 3 48 _ Tryd.underlying36 info_step rfl (by omega) (by omega) base v n _ (pcells (s, .slice A m c)) b h1 l x ho hs hx hb rfl ?_ hn hbase ?_
  · intro u hu; simp [pcells] at hu; rcases hu with rfl | rfl | rfl <;> rfl
  · intro v' w' h3 h4 h5
    have hk : ∀ b cs, base ≤ b → w.heap[b]? = some (.cells cs 9 (0, 0)) → w'.heap[b]? = w.heap[b]? := fun b cs _ hc => h4.block b (heap_lt hc) (Ne.symm (hN b cs hc))
    refine h v' w' ⟨ps ++ [(s, .slice A m c)], by simp, by rw [List.flatMap_append]; simpa using h3, fun p hp => ?_⟩ h4 h5
    rcases List.mem_append.1 hp with hp | hp
    · obtain ⟨A', m', c', e, h6, h7⟩ := h2 p hp
      exact ⟨A', m', c', e, h6.kept hk, h7⟩
    · rw [List.mem_singleton] at hp
      subst hp
      exact ⟨A, m, c, rfl, hs0.kept hk, hmc⟩
/-- The same ahead of what follows. -/
theorem app_stepWC {w : World} {ops : Array Oper} {rest : List Oper} {o : Oper} {a : Act} {Q : Exit → Act → World → Prop} (base : Nat) (v : Value) (n : Nat) (ss : List Step) (b : Nat) (s : Step) (A : Option Addr) (m c : Nat) (hown : SRowC w base v n ss) (hs0 : SStr w base A m s.after) (hmc : m ≤ c)
    (hgd : o.guard = none) (l x : Operand) (ho : o.op = .call { callee := .builtin .append, args := #[l, x], argTypes := #[36, 36] })
    (hs : a.eval l = v) (hx : a.eval x = .slice (some ⟨b, 0, none⟩) 1 1) (hb : w.heap[b]? = some (.cells #[.string s.name, .slice A m c, .bool s.undo] 25 (0, 0))) (hn : n ≤ 1048576) (hbase : base ≤ w.heap.size)
    (h : ∀ v' w', SRowC w' base v' (n + 1) (ss ++ [s]) → w.grownBy w' v.ownBlock → (v'.ownBlock = v.ownBlock ∨ v'.ownBlock = some w.heap.size) → wpList Tryd.prog ops Q rest (a.put o.dst v') w') : wpList Tryd.prog ops Q (o :: rest) a w :=
  wpList_plain hgd fun _ hK => wapp_stepC base v n ss b s A m c hown hs0 hmc l x ho hs hx hb hn hbase fun v' w' h1 h2 h3 => hK _ _ (h v' w' h1 h2 h3)

/-- A row's length is at most its capacity. -/
theorem row_cap {w : World} {base n c : Nat} {e : TypeId} {size : Nat} {A : Option Addr} {cs : List Value} (h : w.ownsRow base e size (.slice A n c) n cs) : n ≤ c := by
  rcases h.2 with ⟨e1, e2⟩ | ⟨g, cap, cur, e1, hb, hg, hnc, hr⟩
  · omega
  · injection e1 with _ _ e3
    omega
end Go.Proofs.YthdfefgianokgaaDoor

/- Drawing flows: some flow. -/
namespace Go.Proofs.YthdfefgianokgaaDoor
open Go.RowKit

def nmF : Array Value := #[.string ⟨#[97]⟩, .string ⟨#[98]⟩, .string ⟨#[99]⟩, .string ⟨#[100]⟩, .string ⟨#[101]⟩, .string ⟨#[102]⟩]
theorem nmF_at (k : Nat) (hk : k < 6) : ∃ s : Str, nmF[k]? = some (.string s) ∧ s.size ≤ 5 := by
  match k, hk with
  | 0, _ => exact ⟨⟨#[97]⟩, rfl, by decide⟩
  | 1, _ => exact ⟨⟨#[98]⟩, rfl, by decide⟩
  | 2, _ => exact ⟨⟨#[99]⟩, rfl, by decide⟩
  | 3, _ => exact ⟨⟨#[100]⟩, rfl, by decide⟩
  | 4, _ => exact ⟨⟨#[101]⟩, rfl, by decide⟩
  | 5, _ => exact ⟨⟨#[102]⟩, rfl, by decide⟩

/-- What drawing a flow leaves. -/
def FlowQ (w0 : World) (g q : Nat) (w : World) (e : Ending) (w' : World) : Prop :=
  ∃ (v : Int) (A : Option Addr) (n c : Nat) (ss : List Step), e = .returned (.agg #[.int .i64 v, .slice A n c]) ∧ RStep w' w.heap.size A n ss ∧ okSteps ss ∧ 1 ≤ n ∧ n ≤ 6 ∧ Dr 79 w0 g (q + 100) w' ∧ On g w w'

/-- The same; the steps' lists have room. -/
def FlowQC (w0 : World) (g q : Nat) (w : World) (e : Ending) (w' : World) : Prop :=
  ∃ (v : Int) (A : Option Addr) (n c : Nat) (ss : List Step), e = .returned (.agg #[.int .i64 v, .slice A n c]) ∧ RStep w' w.heap.size A n ss ∧ okSteps ss ∧ 1 ≤ n ∧ n ≤ 6 ∧ Dr 79 w0 g (q + 100) w' ∧ On g w w' ∧ CapS w' A n

/-- The head of the outer loop. -/
structure FlowI (w : World) (g q F N : Nat) (ver : Int) (wr : World) (k n : Nat) (A : Option Addr) (c : Nat) (ss : List Step) : Prop where
  kn : n ≤ k
  pos : 0 < k → 0 < n
  ok : okSteps ss
  row : SRowC wr (w.heap.size + 1) (.slice A n c) n ss
  dr : Dr 79 w g (q + 10 + 10 * k) wr
  res : wr.heap[w.heap.size]? = some (.cells #[.int .i64 0, .slice none 0 0] 38 (0, 0))
  box : wr.heap[F]? = some (.cells #[.int .i64 ver, .slice A n c] 38 (0, 0))
  nms : wr.heap[N]? = some (.cells nmF 9 (0, 0))
  fw : w.heap.size < F
  nw : w.heap.size < N

/-- The head of the inner loop. -/
structure FlowJ (w2 : World) (g q b : Nat) (s : Str) (u : Bool) (wj : World) (m : Nat) (A : Option Addr) (c : Nat) (ys : List Str) : Prop where
  ok : okS ys
  row : wj.ownsRow w2.heap.size 9 1 (.slice A m c) m (ys.map Value.string)
  dr : Dr 79 w2 g q wj
  box : wj.heap[b]? = some (.cells #[.string s, .slice A m c, .bool u] 25 (0, 0))
theorem FlowJ.len {w2 : World} {g q b : Nat} {s : Str} {u : Bool} {wj : World} {m : Nat} {A : Option Addr} {c : Nat} {ys : List Str} (h : FlowJ w2 g q b s u wj m A c ys) : ys.length = m := by
  have := h.row.1; simpa using this

set_option maxRecDepth 100000 in
set_option maxHeartbeats 4000000 in
theorem l91FlowC_any (w0 : World) (g q : Nat) (w : World) (h : Dr 79 w0 g q w) (hq : q ≤ 1099511620000) :
    Calls Tryd.prog 45 #[.pointer (some ⟨g, 0, none⟩)] w (FlowQC w0 g q w) := by
  have HD := Lib.hid h; clear h
  have hgl := HD.out.lt
  have hd0 := HD.out.here.alloc (.cells #[.int .i64 0, .slice none 0 0] 38)
  go_enter Tryd.func45, Tryd.ntmps45
  go_wp2_with fail
  refine (pick w g _ _ _ hd0 (by omega) (by omega)).mono ?_
  rintro e w1 ⟨v, rfl, hv0, hv1, hv2, hd1, hon⟩
  have hv5 : v < 5 := hv1 (by omega)
  clear hv1 hv2 hd0
  have HRES := Lib.hid (hon.blk (b := w.heap.size) (heap_new rfl) (by omega))
  have hs1 := hon.size
  rw [show (w.alloc (.cells #[.int .i64 0, .slice none 0 0] 38)).heap.size = w.heap.size + 1 by simp] at hs1
  have HD1 := Lib.hid hd1; clear hd1 hon
  go_wp2_with fail
  go_loopw [5] (fun i wr => ∃ k n : Nat, ∃ (A : Option Addr) (c : Nat) (ss : List Step), k ≤ 6 ∧ i = .int .i64 k ∧ FlowI w g q (w1.heap.size + 1) (w1.heap.size + 1 + 1) (1 + v) wr k n A c ss) (fun i _ => 6 - (intOf i).toNat)
  case atStart =>
    refine ⟨0, 0, some ⟨w1.heap.size, 0, none⟩, 0, [], by omega, rfl, Nat.le_refl _, fun h => absurd h (by omega), okSteps_nil, ?_, ?_, ?_, ?_, ?_, by omega, by omega⟩
    · exact ((SRowC.made (show w.heap.size + 1 ≤ w1.heap.size by omega) rfl).below ((Below.refl _ _).alloc (Nat.le_refl _) _)).below ((Below.refl _ _).alloc (Nat.le_refl _) _)
    · exact (((HD1.out.alloc _).alloc _).alloc _).more (by omega)
    · exact heap_old (heap_old (heap_old HRES.out))
    · exact heap_old (heap_new (by simp))
    · exact heap_new (by simp)
  case round =>
    obtain ⟨wo, rfl⟩ : ∃ wo : World, wo = wr := ⟨_, rfl⟩
    obtain ⟨k, n, A, c, ss, hk, rfl, hI⟩ := hrel
    have HI := Lib.hid hI; clear hI
    have hd0 := HI.out.dr.here
    have hlN := heap_lt HI.out.nms
    have hlF := heap_lt HI.out.box
    by_cases hlt : k < 6
    · obtain ⟨s, hs1, hs2⟩ := nmF_at k hlt
      have c1 := (blk_cl HI.out.nms hs1).1
      clear hs1
      go_wp2_with fail
      refine (pick wo g _ _ _ hd0 (by omega) (by omega)).mono ?_
      rintro e w2 ⟨p, rfl, hp0, hp1, hp2, hd2, hon2⟩
      clear hp1 hp2
      have c2 := (hon2.cell (o := k) hlN (by omega)).trans c1
      clear c1
      have HD2 := Lib.hid hd2; clear hd2
      have HON2 := Lib.hid hon2; clear hon2
      by_cases hskip : p < 1 ∧ 0 < k
      · obtain ⟨h1, h2⟩ := hskip
        have h3 : ((k : Int) == 0) = false := by rw [beq_eq_false_iff_ne]; omega
        go_wp2_with fail
        go_roundw
        case rel =>
          exact ⟨k + 1, n, A, c, ss, by omega, by go_num, by have := HI.out.kn; omega, fun _ => HI.out.pos h2, HI.out.ok, HI.out.row.on HON2.out (by omega), (HI.out.dr.trans HD2.out).more (by omega), HON2.out.blk HI.out.res (by omega), HON2.out.blk HI.out.box (by have := HI.out.fw; omega), HON2.out.blk HI.out.nms (by have := HI.out.nw; omega), HI.out.fw, HI.out.nw⟩
        case measure => simp [intOf]; omega
      · have hyes : 0 < p ∨ (p < 1 ∧ ((k : Int) == 0) = true) := by
          rcases Int.lt_or_le 0 p with h | h
          · exact .inl h
          · refine .inr ⟨by omega, ?_⟩
            rw [beq_iff_eq]; omega
        clear hskip
        have hd3 := HD2.out.here
        have hlN2 : w1.heap.size + 1 + 1 < w2.heap.size := by have := HON2.out.size; omega
        have HSB : Hid (∀ w', On g w2 w' → w'.cell? ⟨w1.heap.size + 1 + 1, k, none⟩ = some (.string s) ∧ On g w2 w') := fun w' h => ⟨(h.cell hlN2 (by omega)).trans c2, h⟩
        have hg0 : g < w2.heap.size := by have := HON2.out.size; omega
        have hg1 : g < w2.heap.size + 1 := by omega
        have hne0 : w2.heap.size ≠ g := by have := HON2.out.size; omega
        have hne1 : w2.heap.size + 1 ≠ g := by have := HON2.out.size; omega
        rcases hyes with hp | ⟨hp, hk0⟩
        all_goals
          go_upto_region 7 with fail
          go_cut [6] (fun s6 wx => ∃ (b bA : Nat) (u : Bool), s6 = .pointer (some ⟨b, 0, none⟩) ∧ wx.heap[b]? = some (.cells #[.string s, .slice (some ⟨bA, 0, none⟩) 0 0, .bool u] 25 (0, 0)) ∧ wx.heap[bA]? = some (.cells #[] 9 (0, 0)) ∧ w2.heap.size ≤ b ∧ w2.heap.size ≤ bA ∧ Dr 79 w2 g (q + 10 + 10 * k + 2) wx)
          case first =>
           go_region_held3 (fun w' => w'.cell? ⟨w1.heap.size + 1 + 1, k, none⟩ = some (.string s) ∧ On g w2 w')
            ((refine HSB.out _ ?_; (repeat (first | with_reducible exact On.refl _ _ | exact hd4.on | refine On.setNew ?_ (by first | exact Nat.le_refl _ | exact Nat.le_succ _ | (simp; done) | omega) _ _ | refine On.drew ?_ | refine On.alloc ?_ _ | fail "x")); done))
            (first | (go_at_call 40; refine (pick w2 g _ _ _ (by repeat (first | with_reducible exact hd3 | apply Dr.drew | apply Dr.alloc)) (by omega) (by omega)).mono ?_; rintro e w3 ⟨v1, rfl, hv3, hv4, hv5, hd4, hon⟩; (first | (have hb1 := hon.blk (b := w2.heap.size + 1) (x := .cells #[.string ⟨#[]⟩, .slice none 0 0, .bool false] 25 (0, 0)) (heap_new (Array.size_push _).symm) hne1; obtain ⟨x0, y0⟩ := blk_cl (k := 0) hb1 rfl; obtain ⟨x1, y1⟩ := blk_cl (k := 1) hb1 rfl; obtain ⟨x2, y2⟩ := blk_cl (k := 2) hb1 rfl; have hz := heap_lt hb1) | (have hb1 := hon.blk (b := w2.heap.size) (x := .cells #[.string ⟨#[]⟩, .slice none 0 0, .bool false] 25 (0, 0)) (heap_new rfl) hne0; obtain ⟨x0, y0⟩ := blk_cl (k := 0) hb1 rfl; obtain ⟨x1, y1⟩ := blk_cl (k := 1) hb1 rfl; obtain ⟨x2, y2⟩ := blk_cl (k := 2) hb1 rfl; have hz := heap_lt hb1) | (have hb1 := hon.blk (b := w2.heap.size) (x := .cells #[.string ⟨#[]⟩, .slice none 0 0, .bool false] 25 (0, 0)) (heap_old (heap_new rfl)) hne0; obtain ⟨x0, y0⟩ := blk_cl (k := 0) hb1 rfl; obtain ⟨x1, y1⟩ := blk_cl (k := 1) hb1 rfl; obtain ⟨x2, y2⟩ := blk_cl (k := 2) hb1 rfl; have hz := heap_lt hb1) | skip)) | fail "no arm")
           all_goals
             go_wp2_with fail
             go_meet
             have hs4 := hd4.on.size
             have ht := Nat.le_trans hs4 (Nat.le_succ _)
             have hm : q + 10 + 10 * k + 1 + 1 ≤ q + 10 + 10 * k + 2 := Nat.le_refl _
             first
               | with_reducible exact ⟨_, _, _, rfl, heap_new rfl, heap_old (hon.blk (heap_new rfl) hne0), hs4, Nat.le_refl _, (hd4.alloc _).more hm⟩
               | with_reducible exact ⟨_, _, _, rfl, heap_new (sz_push _ _), heap_old (heap_new rfl), ht, hs4, ((hd4.alloc _).alloc _).more hm⟩
               | with_reducible exact ⟨_, _, _, rfl, heap_old (heap_new rfl), heap_new (sz_push _ _), hs4, ht, ((hd4.alloc _).alloc _).more hm⟩
               | with_reducible exact ⟨_, _, _, rfl, set3 hb1, set3_ne (hon.blk (heap_old (heap_new rfl)) hne0) (Nat.ne_of_lt (Nat.lt_succ_self _)), Nat.le_succ _, Nat.le_refl _, (hd4.set3 (Nat.le_succ _) hg1).more hm⟩
               | with_reducible exact ⟨_, _, _, rfl, set3 hb1, set3_ne (hon.blk (heap_new (sz_push _ _)) hne1) (Nat.ne_of_gt (Nat.lt_succ_self _)), Nat.le_refl _, Nat.le_succ _, (hd4.set3 (Nat.le_refl _) hg0).more hm⟩
               | with_reducible exact ⟨_, _, _, rfl, heap_old (set3 hb1), heap_new (sz_set3 _ _ _ _ _), Nat.le_refl _, hs4, ((hd4.set3 (Nat.le_refl _) hg0).alloc _).more hm⟩
          case rest =>
           obtain ⟨b, bA, u, rfl, hb, hbA, le1, le2, hdc⟩ := hcut
           have HB := Lib.hid hb; clear hb
           have HBA := Lib.hid hbA; clear hbA
           have HDC := Lib.hid hdc; clear hdc
           have HBL := Lib.hid (heap_lt HBA.out)
           have HROW := Lib.hid (show wc.ownsRow w2.heap.size 9 1 (.slice (some ⟨bA, 0, none⟩) 0 0) 0 (([] : List Str).map Value.string) from ⟨rfl, .inr ⟨bA, 0, #[], rfl, le2, HBA.out, by omega, by unfold maxLen; omega, by simp, by simp⟩⟩)
           have hn6 : n ≤ 6 := by have := HI.out.kn; omega
           have HFw := Lib.hid (fun wj (h : Dr 79 w2 g (q + 10 + 10 * k + 2 + 6) wj) => h.on.blk (HON2.out.blk HI.out.box (by have := HI.out.fw; omega)) (by have := HI.out.fw; omega))
           have HRS := Lib.hid (HI.out.row.on HON2.out (by omega))
           go_wp2_with fail
           go_loopw [7] (fun i wj => ∃ (j m : Nat) (A2 : Option Addr) (c2 : Nat) (ys : List Str), j ≤ n ∧ i = .int .i64 j ∧ m ≤ j ∧ FlowJ w2 g (q + 10 + 10 * k + 2 + j) b s u wj m A2 c2 ys) (fun i _ => n - (intOf i).toNat)
           case atStart => exact ⟨0, 0, _, _, [], Nat.zero_le _, rfl, Nat.le_refl _, okS_nil, HROW.out, HDC.out, HB.out⟩
           case round =>
            obtain ⟨j, m, A2, c2, ys, hj, rfl, hmj, hJ⟩ := hrel
            have HJ := Lib.hid hJ; clear hJ
            have HF := Lib.hid (HFw.out wr (HJ.out.dr.more (by omega)))
            have f1 := (blk_cl (k := 1) HF.out rfl).1
            by_cases hlt2 : j < n
            · obtain ⟨A0, c0, e0, hst⟩ := (HRS.out.on HJ.out.dr.on (by have := HON2.out.size; omega)).hat
              injection e0 with e0 _ e0'
              subst e0; subst e0'
              obtain ⟨bs, os, rfl, ⟨_, hbs⟩, hcs⟩ := RStep.at_ hst hlt2
              obtain ⟨A', n', c', ⟨s1, _, _⟩, _, _⟩ := hcs j hlt2
              clear hcs hst
              have HSZ := Lib.hid (show (nth ss j).name.size ≤ maxLen from (HI.out.ok.2 j (by have := HRS.out.len; omega)).1)
              have hd5 := HJ.out.dr.here
              have b1 := (blk_cl (k := 1) HJ.out.box rfl).1
              have hlF2 := heap_lt HF.out
              have hlB2 := heap_lt HJ.out.box
              go_wp2_with fail
              refine (pick wr g _ _ _ hd5 (by omega) (by omega)).mono ?_
              rintro e w5 ⟨x, rfl, hx0, hx1, hx2, hd6, hon6⟩
              clear hx1 hx2 hd5
              have hbg : b ≠ g := by omega
              have HD6 := Lib.hid hd6; clear hd6
              have HON6 := Lib.hid hon6; clear hon6
              have HB6 := Lib.hid (HON6.out.blk HJ.out.box hbg)
              have HF6 := Lib.hid (HON6.out.blk HF.out (by have := HI.out.fw; omega))
              have HR6 := Lib.hid (row_on HJ.out.row HON6.out (by omega))
              have HS6 := Lib.hid ((HON6.out.cell (o := os + j * 3) hbs (by have := HI.out.row; have := HON2.out.size; have h3 := HRS.out.lt (b := bs) rfl; omega)).trans s1)
              clear b1 f1 s1
              have b1 := (blk_cl (k := 1) HB6.out rfl).1
              have f1 := (blk_cl (k := 1) HF6.out rfl).1
              have s1 := HS6.out
              by_cases hx : x = 0
              · subst hx
                by_cases hm4 : m < 4
                · have hok6 := HJ.out.ok
                  have hl6 := HJ.out.len
                  have hbase : w2.heap.size ≤ w5.heap.size := by have := HON6.out.size; have := HJ.out.dr.on.size; omega
                  have HNB := Lib.hid (row_ne HR6.out HB6.out (by decide))
                  have HNF := Lib.hid (row_ne HR6.out HF6.out (by decide))
                  have b1a := fun o => (World.cell?_alloc_some w5 _ o (by rw [b1]; rfl)).trans b1
                  have f1a := fun o => (World.cell?_alloc_some w5 _ o (by rw [f1]; rfl)).trans f1
                  have s1a := fun o => (World.cell?_alloc_some w5 _ o (by rw [s1]; rfl)).trans s1
                  have HL6 := Lib.hid hl6; clear hl6
                  have HO6 := Lib.hid hok6; clear hok6
                  go_wp2_with fail
                  go_region_law (first | (refine strapp_step (o := ⟨some 61, _, _, _, _, _⟩) w2.heap.size _ m ys _ (nth ss j).name (by exact HR6.out.alloc _) (by rfl) (.tmp 53) (.tmp 60) (by rfl) (by rfl) (by rfl) (by exact heap_new rfl) (by omega) (by simp; omega) ?_; intro v7 w7 how7 hg7 hat7; obtain ⟨A7, c7, rfl, hsr7⟩ := own_sstr how7; have hb7 := grown_blk hg7 (heap_old HB6.out) HNB.out; have z1 := (blk_cl (k := 1) hb7 rfl).1; have z2 := (blk_cl (k := 1) hb7 rfl).2) | fail "no arm")
                  all_goals go_wp2_with fail
                  all_goals exact ⟨⟨j + 1, m + 1, A7, c7, ys ++ [(nth ss j).name], by omega, by go_num, by omega, okS_app HO6.out (by rw [HL6.out]; omega) HSZ.out, row_set how7 hb7 (by decide),
                    ((((((HJ.out.dr.trans HD6.out).alloc _).drew).grown hg7 (fun k hk => by have := HR6.out.lt k hk; omega)).set_ le1 (by omega) _ _).more (by omega)), set31 hb7⟩, by simp [intOf]; omega⟩
                · go_wp2_with fail
                  go_roundw
                  case rel => exact ⟨j + 1, m, A2, c2, ys, by omega, by go_num, by omega, HJ.out.ok, HR6.out, (HJ.out.dr.trans HD6.out).more (by omega), HB6.out⟩
                  case measure => simp [intOf]; omega
              · have hz2 : (x == 0) = false := by rw [beq_eq_false_iff_ne]; exact hx
                go_wp2_with fail
                go_roundw
                case rel => exact ⟨j + 1, m, A2, c2, ys, by omega, by go_num, by omega, HJ.out.ok, HR6.out, (HJ.out.dr.trans HD6.out).more (by omega), HB6.out⟩
                case measure => simp [intOf]; omega
            · have HDR := Lib.hid HJ.out.dr
              have HLY := Lib.hid HJ.out.len
              have hson := HON2.out.size
              have hdon := HDR.out.on.size
              have hm6 : m ≤ 6 := by omega
              have HRJ := Lib.hid (HRS.out.on HDR.out.on (by omega))
              have HMC := Lib.hid (row_cap HJ.out.row)
              obtain ⟨A3, c3, e3, hss⟩ := own_sstr HJ.out.row
              injection e3 with e3 _ e3'
              subst e3; subst e3'
              have HSS := Lib.hid (hss.mono (show w.heap.size + 1 ≤ w2.heap.size by have := HI.out.fw; omega)); clear hss
              have b0 := (blk_cl (k := 0) HJ.out.box rfl).1
              have b1 := (blk_cl (k := 1) HJ.out.box rfl).1
              have b2 := (blk_cl (k := 2) HJ.out.box rfl).1
              go_wp2_with (at_builtin; refine app_stepWC (w.heap.size + 1) _ n ss _ ⟨s, ys, u⟩ A2 m c2 ?r0 ?r1 (by exact HMC.out) rfl (.tmp 64) (.tmp 66) rfl rfl rfl ?r2 (by omega) ?r3 ?_)
              case r0 => exact HRJ.out.below ((Below.refl _ _).alloc (Nat.le_refl _) _)
              case r1 => exact HSS.out.below ((Below.refl _ _).alloc (Nat.le_refl _) _)
              case r2 => first | exact heap_new rfl | exact Array.getElem_push_eq | (simp; done)
              case r3 => have := HI.out.fw; first | omega | (simp; omega)
              intro v9 w9 hrow9 hg9 hat9
              obtain ⟨A9, c9, rfl, _⟩ := hrow9.hat
              have hb9 := grown_blk hg9 (heap_old HF.out) (HRJ.out.ne HF.out (by decide))
              have z1 := (blk_cl (k := 1) hb9 rfl).1
              have z2 := (blk_cl (k := 1) hb9 rfl).2
              have HB9 := Lib.hid hb9; clear hb9
              have HROW9 := Lib.hid hrow9; clear hrow9
              have HG9 := Lib.hid hg9; clear hg9
              clear hat9
              go_wp2_with fail
              have HRES2 := Lib.hid (show wr.heap[w.heap.size]? = some (.cells #[.int .i64 0, .slice none 0 0] 38 (0, 0)) from HDR.out.on.blk (HON2.out.blk HI.out.res (by omega)) (by omega))
              have HNM2 := Lib.hid (HDR.out.on.blk (HON2.out.blk HI.out.nms (by have := HI.out.nw; omega)) (by have := HI.out.nw; omega))
              have hfw := HI.out.fw
              go_roundw
              case rel =>
                refine ⟨k + 1, n + 1, A9, c9, ss ++ [⟨s, ys, u⟩], by omega, by go_num, by have := HI.out.kn; omega, fun _ => by omega, okSteps_app HI.out.ok (by rw [HRS.out.len]; omega) ⟨by unfold maxLen; show s.size ≤ _; omega, HJ.out.ok⟩, HROW9.out.set HB9.out (by decide) (by decide), ?_, ?_, set21 HB9.out, ?_, HI.out.fw, HI.out.nw⟩
                · exact (((((HI.out.dr.trans HD2.out).trans HDR.out).alloc _).grown HG9.out (fun i hi => by have := HRJ.out.lt (b := i) hi; omega)).set_ (by omega) (by omega) _ _).more (by omega)
                · exact set_ne (grown_blk HG9.out (heap_old HRES2.out) (HRJ.out.ne HRES2.out (by decide))) (by omega)
                · exact set_ne (grown_blk HG9.out (heap_old HNM2.out) (HRJ.out.ne HNM2.out (by decide))) (by omega)
              case measure => simp [intOf]; omega
    · have hk6 : 0 < n := HI.out.pos (by omega)
      have hn6 : n ≤ 6 := by have := HI.out.kn; omega
      have HRW := Lib.hid HI.out.row.hat
      obtain ⟨A0, c0, e0, hst⟩ := HRW.out
      injection e0 with e0 _ e0'
      subst e0; subst e0'
      obtain ⟨bs, os, rfl, ⟨hbs1, hbs2⟩, hcs⟩ := RStep.at_ hst hk6
      obtain ⟨A', n', c', ⟨_, s2, _⟩, _, ⟨_, s2', _⟩⟩ := hcs 0 hk6
      obtain ⟨An, nn, cn, ⟨s3, _, _⟩, _, _⟩ := hcs (n - 1) (by omega)
      clear hcs
      have HST := Lib.hid hst; clear hst
      have HCP := Lib.hid HI.out.row.caps
      have hgo := HI.out.dr.on.size
      go_wp2_with fail
      refine (pick wo g _ _ _ hd0 (by omega) (by omega)).mono ?_
      rintro e w2 ⟨x, rfl, hx0, hx1, hx2, hd2, hon2⟩
      clear hx1 hx2 hd0
      have hb2 := hon2.blk HI.out.box (by have := HI.out.fw; omega)
      have hr2 := hon2.blk HI.out.res (by omega)
      have HST2 := Lib.hid (HST.out.on hon2 (by omega))
      have HC2 := Lib.hid (HCP.out.on hon2 (by omega))
      have f0 := (blk_cl (k := 0) hb2 rfl).1
      have f0' := (blk_cl (k := 0) hb2 rfl).2
      have f1 := (blk_cl (k := 1) hb2 rfl).1
      have r0a := (blk_cl (k := 0) hr2 rfl).1
      have r0b := (blk_cl (k := 0) hr2 rfl).2
      have r1a := (blk_cl (k := 1) hr2 rfl).1
      have r1b := (blk_cl (k := 1) hr2 rfl).2
      have HR2 := Lib.hid hr2; clear hr2
      have HB2 := Lib.hid hb2; clear hb2
      have HD2 := Lib.hid (HI.out.dr.trans hd2)
      have s2w := (hon2.cell hbs2 (by omega)).trans s2
      have s2f := (hon2.frozen hbs2 (by omega)).trans s2'
      have s3w := (hon2.cell hbs2 (by omega)).trans s3
      rw [Nat.zero_mul, Nat.add_zero] at s2w s2f
      have hfb : bs ≠ w1.heap.size + 1 := by
        intro e
        have := HI.out.row.ne HI.out.box (by decide)
        simp [Value.ownBlock] at this
        exact this e
      have hbs3 : bs < w2.heap.size := by have := hon2.size; omega
      clear s2 s2' s3
      have hrF : w1.heap.size + 1 ≠ w.heap.size := by omega
      by_cases h0 : x = 0
      · subst h0
        clear s2w s2f s3w
        go_wp2_with fail
        refine (pick w g _ _ _ (HD2.out.alloc _) (by omega) (by omega)).mono ?_
        rintro e w3 ⟨m, rfl, hm0, hm1, hm2, hd3, hon3⟩
        obtain ⟨m, rfl⟩ := Int.eq_ofNat_of_zero_le hm0
        have hmn : m < 3 := by have := hm1 (by omega); omega
        clear hm1 hm0 hm2
        obtain ⟨y, hy⟩ := lit3_at 0 99 100 m hmn
        have d5 := (blk_cl (hon3.blk (heap_new rfl) (by have := HD2.out.lt; omega)) hy).1
        clear hy
        have hb3 := hon3.blk (heap_old HB2.out) (by omega)
        have hr3 := hon3.blk (heap_old HR2.out) (by omega)
        have HST3 := Lib.hid ((HST2.out.alloc (.cells #[.int .i64 0, .int .i64 99, .int .i64 100] 3)).on hon3 (by omega))
        have HC3 := Lib.hid ((HC2.out.alloc (.cells #[.int .i64 0, .int .i64 99, .int .i64 100] 3)).on hon3 (by omega))
        clear f0 f0' f1 r0a r0b r1a r1b hd2 hon2
        have HB3 := Lib.hid hb3; clear hb3
        have HR3 := Lib.hid hr3; clear hr3
        have HD3 := Lib.hid hd3; clear hd3
        have HR4 := Lib.hid (set_ne (b := w1.heap.size + 1) (o := 0) (u := .int .i64 y) HR3.out hrF.symm)
        have HB4 := Lib.hid (set20 (u := .int .i64 y) HB3.out)
        have f0 := (blk_cl (k := 0) HB3.out rfl).1
        have f0' := (blk_cl (k := 0) HB3.out rfl).2
        have g0 := (blk_cl (k := 0) HB4.out rfl).1
        have g1 := (blk_cl (k := 1) HB4.out rfl).1
        have r0a := (blk_cl (k := 0) HR4.out rfl).1
        have r0b := (blk_cl (k := 0) HR3.out rfl).2
        have r1a := (blk_cl (k := 1) HR4.out rfl).1
        have r1b := (blk_cl (k := 1) HR3.out rfl).2
        clear hon3
        go_wp2_with fail
        have hres := set21 (u := .slice (some ⟨bs, os, none⟩) n c) (set20 (u := .int .i64 y) HR4.out)
        have e0 := (blk_cl (k := 0) hres rfl).1
        have e1 := (blk_cl (k := 1) hres rfl).1
        have hdr := ((HD3.out.set_ (b := w1.heap.size + 1) (by omega) (by omega) 0 (.int .i64 y)).set_ (Nat.le_refl _) hgl 0 (.int .i64 y)).set_ (Nat.le_refl _) hgl 1 (.slice (some ⟨bs, os, none⟩) n c)
        refine bodyPost_ret (v := .agg #[.int .i64 y, .slice (some ⟨bs, os, none⟩) n c]) (by simp [results, Tryd.results45, go_sem, e0, e1]) rfl ⟨_, _, _, _, _, rfl, (((RStep.setInt HST3.out ⟨f0, f0'⟩).setLow (Nat.lt_succ_self _)).setLow (Nat.lt_succ_self _)).lower (Nat.le_succ _), HI.out.ok, hk6, hn6, (HD.out.trans hdr).more (by omega), hdr.on, ((HC3.out.setNe (by omega)).setNe (by omega)).setNe (by omega)⟩
      by_cases h1 : x = 1
      · subst h1
        have hw1 : IntKind.i64.wrap ((n : Int) - 1) = ((n - 1 : Nat) : Int) := by rw [IntWalk.i64_in _ (by omega)]; omega
        have hn1 : ((n - 1 : Nat) : Int) < (n : Int) := by omega
        have hn0 : (0 : Int) ≤ ((n - 1 : Nat) : Int) := by omega
        have hn2 : ((n - 1 : Nat) : Int).toNat = n - 1 := by omega
        have HSZ := Lib.hid (show (nth ss (n - 1)).name.size ≤ maxLen from (HI.out.ok.2 (n - 1) (by rw [HST.out.1]; omega)).1)
        have HSB : Hid (∀ w', Below w2.heap.size w2 w' → w'.cell? ⟨w1.heap.size + 1, 1, none⟩ = some (.slice (some ⟨bs, os, none⟩) n c) ∧ w'.cell? ⟨bs, os + (n - 1) * 3, none⟩ = some (.string (nth ss (n - 1)).name)) := fun w' h => ⟨(h.cell (p := ⟨_, _, none⟩) (heap_lt HB2.out)).trans f1, (h.cell (p := ⟨_, _, none⟩) hbs3).trans s3w⟩
        have HSC : Hid (((w2.setCell ⟨bs, os + 1, none⟩ (.slice (some ⟨w2.heap.size, 0, none⟩) 1 1)).alloc (.cells #[.string (nth ss (n - 1)).name] 9)).drew.cell? ⟨w1.heap.size + 1, 1, none⟩ = some (.slice (some ⟨bs, os, none⟩) n c) ∧
            ((w2.setCell ⟨bs, os + 1, none⟩ (.slice (some ⟨w2.heap.size, 0, none⟩) 1 1)).alloc (.cells #[.string (nth ss (n - 1)).name] 9)).drew.cell? ⟨bs, os + (n - 1) * 3, none⟩ = some (.string (nth ss (n - 1)).name)) :=
          ⟨(blk_cl (k := 1) (heap_old (set_ne HB2.out (Ne.symm hfb))) rfl).1, by
            have e := World.cell?_setCell_other w2 ⟨bs, os + 1, none⟩ ⟨bs, os + (n - 1) * 3, none⟩ (.slice (some ⟨w2.heap.size, 0, none⟩) 1 1) (fun e => by injection e; omega)
            exact ((World.cell?_alloc_some _ _ _ (by rw [e, s3w]; rfl)).trans e).trans s3w⟩
        go_wp2_with fail
        go_region_held3 (fun w' => w'.cell? ⟨w1.heap.size + 1, 1, none⟩ = some (.slice (some ⟨bs, os, none⟩) n c) ∧ w'.cell? ⟨bs, os + (n - 1) * 3, none⟩ = some (.string (nth ss (n - 1)).name))
          (first | exact HSB.out _ (Below.refl _ _).drew | exact HSB.out _ ((Below.refl _ _).alloc (Nat.le_refl _) _).drew | exact HSC.out | fail "keep")
          (fail)
        have HSL := Lib.hid ((lit_str (w := w2) (e := 9) (cs := #[.string (nth ss (n - 1)).name]) [(nth ss (n - 1)).name] 1 rfl rfl).lower (show w.heap.size + 1 ≤ w2.heap.size by omega))
        have HSA := Lib.hid (RStep.setAfter (j := 0) (d := 1) (HST2.out.alloc (.cells #[.string (nth ss (n - 1)).name] 9)) hk6 HSL.out)
        rw [Nat.zero_mul, Nat.add_zero, World.setCell_alloc_past _ _ _ _ hbs3] at HSA
        have HB4 := Lib.hid (heap_old (o := .cells #[.string (nth ss (n - 1)).name] 9) (set_ne (b := bs) (o := os + 1) (u := .slice (some ⟨w2.heap.size, 0, none⟩) 1 1) HB2.out (Ne.symm hfb)))
        have HR4 := Lib.hid (heap_old (o := .cells #[.string (nth ss (n - 1)).name] 9) (set_ne (b := bs) (o := os + 1) (u := .slice (some ⟨w2.heap.size, 0, none⟩) 1 1) HR2.out (by omega)))
        have g0 := (blk_cl (k := 0) HB4.out rfl).1
        have g1 := (blk_cl (k := 1) HB4.out rfl).1
        have r0c := (blk_cl (k := 0) HR4.out rfl).1
        have r1c := (blk_cl (k := 1) HR4.out rfl).1
        have r0d := (blk_cl (k := 0) HR4.out rfl).2
        have r1d := (blk_cl (k := 1) HR4.out rfl).2
        go_wp2_with fail
        have hres := set21 (u := .slice (some ⟨bs, os, none⟩) n c) (set20 (u := .int .i64 (1 + v)) HR4.out)
        have e0 := (blk_cl (k := 0) hres rfl).1
        have e1 := (blk_cl (k := 1) hres rfl).1
        have hdr := (((HD2.out.set_ (b := bs) (by omega) (by omega) (os + 1) (.slice (some ⟨w2.heap.size, 0, none⟩) 1 1)).alloc (.cells #[.string (nth ss (n - 1)).name] 9)).set_ (Nat.le_refl _) hgl 0 (.int .i64 (1 + v))).set_ (Nat.le_refl _) hgl 1 (.slice (some ⟨bs, os, none⟩) n c)
        refine bodyPost_ret (v := .agg #[.int .i64 (1 + v), .slice (some ⟨bs, os, none⟩) n c]) (by simp [results, Tryd.results45, go_sem, World.cell?_drew, e0, e1]) rfl ⟨_, _, _, _, _, rfl, (((HSA.out.setLow (Nat.lt_succ_self _)).setLow (Nat.lt_succ_self _)).lower (Nat.le_succ _)).drew, okSteps_set HI.out.ok (okS_one HSZ.out), hk6, hn6, ((HD.out.trans hdr).more (by omega)).drew, hdr.on.drew, ((((HC2.out.setSl (Nat.le_refl 1) bs (os + 1)).alloc _).setNe (by omega)).setNe (by omega)).drew⟩
      by_cases h2 : x = 2
      · subst h2
        clear s3w
        have HSL := Lib.hid ((lit_str (w := w2) (e := 9) (cs := #[.string ⟨#[122, 122]⟩]) [⟨#[122, 122]⟩] 1 rfl rfl).lower (show w.heap.size + 1 ≤ w2.heap.size by omega))
        have HSA := Lib.hid (RStep.setAfter (j := 0) (d := 1) (HST2.out.alloc (.cells #[.string ⟨#[122, 122]⟩] 9)) hk6 HSL.out)
        rw [Nat.zero_mul, Nat.add_zero, World.setCell_alloc_past _ _ _ _ hbs3] at HSA
        have HB4 := Lib.hid (heap_old (o := .cells #[.string ⟨#[122, 122]⟩] 9) (set_ne (b := bs) (o := os + 1) (u := .slice (some ⟨w2.heap.size, 0, none⟩) 1 1) HB2.out (Ne.symm hfb)))
        have HR4 := Lib.hid (heap_old (o := .cells #[.string ⟨#[122, 122]⟩] 9) (set_ne (b := bs) (o := os + 1) (u := .slice (some ⟨w2.heap.size, 0, none⟩) 1 1) HR2.out (by omega)))
        have g0 := (blk_cl (k := 0) HB4.out rfl).1
        have g1 := (blk_cl (k := 1) HB4.out rfl).1
        have r0c := (blk_cl (k := 0) HR4.out rfl).1
        have r1c := (blk_cl (k := 1) HR4.out rfl).1
        have r0d := (blk_cl (k := 0) HR4.out rfl).2
        have r1d := (blk_cl (k := 1) HR4.out rfl).2
        go_wp2_with fail
        have hres := set21 (u := .slice (some ⟨bs, os, none⟩) n c) (set20 (u := .int .i64 (1 + v)) HR4.out)
        have e0 := (blk_cl (k := 0) hres rfl).1
        have e1 := (blk_cl (k := 1) hres rfl).1
        have hdr := (((HD2.out.set_ (b := bs) (by omega) (by omega) (os + 1) (.slice (some ⟨w2.heap.size, 0, none⟩) 1 1)).alloc (.cells #[.string ⟨#[122, 122]⟩] 9)).set_ (Nat.le_refl _) hgl 0 (.int .i64 (1 + v))).set_ (Nat.le_refl _) hgl 1 (.slice (some ⟨bs, os, none⟩) n c)
        refine bodyPost_ret (v := .agg #[.int .i64 (1 + v), .slice (some ⟨bs, os, none⟩) n c]) (by simp [results, Tryd.results45, go_sem, e0, e1]) rfl ⟨_, _, _, _, _, rfl, ((HSA.out.setLow (Nat.lt_succ_self _)).setLow (Nat.lt_succ_self _)).lower (Nat.le_succ _), okSteps_set HI.out.ok (okS_one (by unfold maxLen; decide)), hk6, hn6, (HD.out.trans hdr).more (by omega), hdr.on, (((HC2.out.setSl (Nat.le_refl 1) bs (os + 1)).alloc _).setNe (by omega)).setNe (by omega)⟩
      have q0 : (x == 0) = false := by rw [beq_eq_false_iff_ne]; exact h0
      have q1 : (x == 1) = false := by rw [beq_eq_false_iff_ne]; exact h1
      have q2 : (x == 2) = false := by rw [beq_eq_false_iff_ne]; exact h2
      go_wp2_with fail
      have hres := set21 (u := .slice (some ⟨bs, os, none⟩) n c) (set20 (u := .int .i64 (1 + v)) HR2.out)
      have e0 := (blk_cl (k := 0) hres rfl).1
      have e1 := (blk_cl (k := 1) hres rfl).1
      have hdr := (HD2.out.set_ (Nat.le_refl _) hgl 0 (.int .i64 (1 + v))).set_ (Nat.le_refl _) hgl 1 (.slice (some ⟨bs, os, none⟩) n c)
      refine bodyPost_ret (v := .agg #[.int .i64 (1 + v), .slice (some ⟨bs, os, none⟩) n c]) (by simp [results, Tryd.results45, go_sem, e0, e1]) rfl ⟨_, _, _, _, _, rfl, ((HST2.out.setLow (Nat.lt_succ_self _)).setLow (Nat.lt_succ_self _)).lower (Nat.le_succ _), HI.out.ok, hk6, hn6, (HD.out.trans hdr).more (by omega), hdr.on, (HC2.out.setNe (by omega)).setNe (by omega)⟩
theorem l91Flow_any (w0 : World) (g q : Nat) (w : World) (h : Dr 79 w0 g q w) (hq : q ≤ 1099511620000) :
    Calls Tryd.prog 45 #[.pointer (some ⟨g, 0, none⟩)] w (FlowQ w0 g q w) :=
  (l91FlowC_any w0 g q w h hq).mono fun _ _ ⟨v, A, n, c, ss, e, h1, h2, h3, h4, h5, h6, _⟩ => ⟨v, A, n, c, ss, e, h1, h2, h3, h4, h5, h6⟩
end Go.Proofs.YthdfefgianokgaaDoor

/- Drawing a flow out of a code. -/
namespace Go.Proofs.YthdfefgianokgaaDoor
open Go.RowKit

def FlowD (w : World) (e : Ending) (w' : World) : Prop :=
  ∃ (v : Int) (A : Option Addr) (n c : Nat) (ss : List Step), e = .returned (.agg #[.int .i64 v, .slice A n c]) ∧ RStep w' w.heap.size A n ss ∧ okSteps ss ∧ 1 ≤ n ∧ n ≤ 6 ∧ Below w.heap.size w w'
theorem RByte.below {w w' : World} {A : Option Addr} {n : Nat} (h : RByte w A n) (hb : Below w.heap.size w w') : RByte w' A n := fun h0 => by
  obtain ⟨b, off, e, h1, h2⟩ := h h0
  refine ⟨b, off, e, Nat.lt_of_lt_of_le h1 hb.size, fun k hk => ?_⟩
  obtain ⟨u, hu, hc⟩ := h2 k hk
  exact ⟨u, hu, (hb.cell (p := ⟨b, off + k, none⟩) h1).trans hc⟩
theorem RByte.alloc {w : World} {A : Option Addr} {n : Nat} (h : RByte w A n) (o : Obj) : RByte (w.alloc o) A n := h.below ((Below.refl _ _).alloc (Nat.le_refl _) o)

end Go.Proofs.YthdfefgianokgaaDoor
