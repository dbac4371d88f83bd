/- Contracts of functions and plain lemmas, joined. No condition but those that each states. -/
import Derived.Deep.RegionLaw
import Derived.Test.YtakeijgoonagcaaZA

/- How many orders a flow has. No program in sight. -/
namespace Go.Proofs.Ytakeijgoonagcaa
open Go.RowKit

/-- In how many orders the k steps that are left can be done. -/
def cnt (ss : List Step) : Nat → List Str → Nat
  | 0, _ => 1
  | k + 1, done => ((rdyL ss done).map fun x => cnt ss k (done ++ [x])).sum

/-- What is done: steps of the flow, each once. -/
structure Done (ss : List Step) (done : List Str) : Prop where
  nodup : done.Nodup
  sub : ∀ x ∈ done, x ∈ namesOf ss

theorem Done.nil {ss : List Step} : Done ss [] := ⟨List.nodup_nil, by simp⟩
theorem Done.len {ss : List Step} {done : List Str} (h : Done ss done) : done.length ≤ ss.length := by
  have := nodup_le h.nodup h.sub
  rwa [namesOf_len] at this
theorem Done.next {ss : List Step} {done : List Str} {x : Str} (h : Done ss done) (hx : x ∈ rdyL ss done) : Done ss (done ++ [x]) := by
  obtain ⟨h1, h2⟩ := rdyL_new hx
  refine ⟨?_, ?_⟩
  · rw [List.nodup_append]
    refine ⟨h.nodup, by simp, ?_⟩
    intro a ha b hb
    rw [List.mem_singleton] at hb
    subst hb
    intro e; subst e; exact h1 ha
  · intro y hy
    rcases List.mem_append.1 hy with hy | hy
    · exact h.sub y hy
    · rw [List.mem_singleton] at hy; subst hy; exact h2

theorem sum_le_mul {xs : List Nat} {m : Nat} (h : ∀ x ∈ xs, x ≤ m) : xs.sum ≤ xs.length * m := by
  induction xs with
  | nil => simp
  | cons a r ih =>
    have h1 := h a (by simp)
    have h2 := ih (fun x hx => h x (by simp [hx]))
    rw [List.sum_cons, List.length_cons, Nat.add_mul, Nat.one_mul]
    omega

def fact : Nat → Nat
  | 0 => 1
  | n + 1 => (n + 1) * fact n
theorem fact_le {n m : Nat} (h : n ≤ m) : fact n ≤ fact m := by
  induction m with
  | zero => rw [Nat.le_zero.1 h]; exact Nat.le_refl _
  | succ m ih =>
    by_cases e : n = m + 1
    · rw [e]; exact Nat.le_refl _
    · have := ih (by omega)
      show _ ≤ (m + 1) * fact m
      calc fact n ≤ fact m := this
        _ = 1 * fact m := (Nat.one_mul _).symm
        _ ≤ (m + 1) * fact m := Nat.mul_le_mul_right _ (by omega)

theorem rdyL_nodup {ss : List Step} {done : List Str} (hn : (namesOf ss).Nodup) : (rdyL ss done).Nodup := by
  unfold rdyL
  exact List.Nodup.sublist (List.Sublist.map _ List.filter_sublist) hn

theorem rdyL_room {ss : List Step} {done : List Str} (hn : (namesOf ss).Nodup) (h : Done ss done) : done.length + (rdyL ss done).length ≤ ss.length := by
  have h1 : (done ++ rdyL ss done).Nodup := by
    rw [List.nodup_append]
    refine ⟨h.nodup, rdyL_nodup hn, ?_⟩
    intro a ha b hb e
    subst e
    exact (rdyL_new hb).1 ha
  have h2 := nodup_le h1 (ys := namesOf ss) (by
    intro x hx
    rcases List.mem_append.1 hx with hx | hx
    · exact h.sub x hx
    · exact (rdyL_new hx).2)
  rwa [List.length_append, namesOf_len] at h2

theorem cnt_le {ss : List Step} (hn : (namesOf ss).Nodup) : ∀ (k : Nat) (done : List Str), Done ss done → k + done.length = ss.length → cnt ss k done ≤ fact k
  | 0, _, _, _ => Nat.le_refl _
  | k + 1, done, hd, hk => by
    have h1 := rdyL_room hn hd
    show ((rdyL ss done).map fun x => cnt ss k (done ++ [x])).sum ≤ (k + 1) * fact k
    have h2 : ((rdyL ss done).map fun x => cnt ss k (done ++ [x])).sum ≤ (rdyL ss done).length * fact k := by
      have := sum_le_mul (xs := (rdyL ss done).map fun x => cnt ss k (done ++ [x])) (m := fact k) (by
        intro y hy
        obtain ⟨x, hx, rfl⟩ := List.mem_map.1 hy
        exact cnt_le hn k _ (hd.next hx) (by rw [List.length_append]; simp; omega))
      rwa [List.length_map] at this
    exact Nat.le_trans h2 (Nat.mul_le_mul_right _ (by omega))

theorem ready_some {ss : List Step} {done : List Str} (hc : (ordL ss).length = ss.length) (hlt : done.length < ss.length) : rdyL ss done ≠ [] := by
  intro hnil
  have key : ∀ j, ∀ x ∈ ordTo ss j, x ∈ done := by
    intro j
    induction j with
    | zero => intro x hx; cases hx
    | succ j ih =>
      intro x hx
      cases hr : rdyL ss (ordTo ss j) with
      | nil =>
        rw [show ordTo ss (j + 1) = ordTo ss j from ordStep_nil hr] at hx
        exact ih x hx
      | cons y r =>
        rw [show ordTo ss (j + 1) = ordTo ss j ++ [y] from ordStep_cons hr] at hx
        rcases List.mem_append.1 hx with hx | hx
        · exact ih x hx
        · rw [List.mem_singleton] at hx
          subst hx
          obtain ⟨s, hs, hb, hx⟩ := rdyL_mem.1 (show x ∈ rdyL ss (ordTo ss j) by rw [hr]; simp)
          by_cases hm : x ∈ done
          · exact hm
          exfalso
          have : x ∈ rdyL ss done := by
            refine rdyL_mem.2 ⟨s, hs, ?_, hx⟩
            unfold rdyB at hb ⊢
            simp only [Bool.and_eq_true, Bool.not_eq_true'] at hb ⊢
            refine ⟨hasB_false.2 (by rw [hx]; exact hm), ?_⟩
            exact haveB_iff.2 (fun y hy => ih y (haveB_iff.1 hb.2 y hy))
          rw [hnil] at this
          cases this
  have h2 := nodup_le (ordTo_nodup ss ss.length).1 (ys := done) (key ss.length)
  have : (ordTo ss ss.length).length = ss.length := hc
  omega

theorem cnt_pos {ss : List Step} (hc : (ordL ss).length = ss.length) : ∀ (k : Nat) (done : List Str), k + done.length = ss.length → 1 ≤ cnt ss k done
  | 0, _, _ => Nat.le_refl _
  | k + 1, done, hk => by
    have h1 := ready_some hc (done := done) (by omega)
    show 1 ≤ ((rdyL ss done).map fun x => cnt ss k (done ++ [x])).sum
    cases hr : rdyL ss done with
    | nil => exact absurd hr h1
    | cons x r =>
      have := cnt_pos hc k (done ++ [x]) (by rw [List.length_append]; simp; omega)
      rw [List.map_cons, List.sum_cons]
      omega
end Go.Proofs.Ytakeijgoonagcaa

/- Counting orders: both. -/
namespace Go.Proofs.Ytakeijgoonagcaa
open Go.RowKit

set_option maxRecDepth 100000 in
theorem cloneNames_any (A : Option Addr) (n c : Nat) (xs : List Str) (lo : Nat) (w : World) (hr : RStr w lo A n xs) (hn : n ≤ 1048576) :
    Calls Try.prog 75 #[.slice A n c] w fun e w' => ∃ v, e = .returned v ∧ Own 9 1 w w' v n (xs.map Value.string) := by
  have HR := Lib.hid hr; clear hr
  go_enter Try.func75, Try.ntmps75
  go_wp2_with (at_builtin; refine apps_str w _ 0 [] lo A n c xs ?c0 HR.out rfl (.const (.slice none 0 0)) (.tmp 3) rfl rfl rfl (by omega) ?_)
  case c0 => exact ⟨World.ownsRow_nil _ _ _ _, Below.refl _ _⟩
  intro v' w' how' hg'
  go_wp2_with fail
  go_ret
  exact ⟨_, rfl, how'⟩

theorem sapp_step {w : World} {ops : Array Oper} {o : Oper} {a : Act} {K : Act → World → Prop} {Q : Exit → Act → World → Prop} {E : Prop} (w0 : World) (v : Value) (n : Nat) (cs : List Str) (b : Nat) (s : Str) (hown : Own 9 1 w0 w v n (cs.map Value.string))
    (hgd : o.guard = none) (l r : Operand) (ho : o.op = .call { callee := .builtin .append, args := #[l, r], argTypes := #[29, 29] })
    (hs : a.eval l = v) (hx : a.eval r = .slice (some ⟨b, 0, none⟩) 1 1) (hb : w.heap[b]? = some (.cells #[.string s] 9 (0, 0))) (hn : n ≤ 1048576)
    (h : ∀ v' w', Own 9 1 w0 w' v' (n + 1) ((cs ++ [s]).map Value.string) → w.grownBy w' v.ownBlock → K (a.put o.dst v') w') :
    if Region.wanted o (yielded ops a.tmps) = true then Oper.wp Try.prog o a w K Q else E := by
  have hw : Region.wanted o (yielded ops a.tmps) = true := by simp [Region.wanted, hgd]
  rw [if_pos hw]
  refine wapp 29 9 1 16 _ Try.underlying29 info_str rfl (by omega) (by omega) w0.heap.size v n _ [.string s] b hown.row l r ho hs hx hb rfl ?_ hn hown.below.size ?_
  · intro u hu; simp at hu; subst hu; rfl
  · intro v' w' h1 h2 h3
    exact h v' w' (hown.next (by rw [List.map_append]; exact h1) h2) h2

/-- The orders behind the first i that are ready. -/
def cntTo (ss : List Step) (k : Nat) (done : List Str) (i : Nat) : Nat := (((rdyL ss done).take i).map fun x => cnt ss k (done ++ [x])).sum
theorem cntTo_next {ss : List Step} {k : Nat} {done : List Str} {i : Nat} (h : i < (rdyL ss done).length) :
    cntTo ss k done (i + 1) = cntTo ss k done i + cnt ss k (done ++ [nth (rdyL ss done) i]) := by
  unfold cntTo; rw [take_nth h, List.map_append, List.sum_append]; simp
theorem cntTo_all {ss : List Step} {k : Nat} {done : List Str} : cntTo ss k done (rdyL ss done).length = cnt ss (k + 1) done := by
  unfold cntTo; rw [List.take_of_length_le (Nat.le_refl _)]; rfl

theorem cntTo_le {ss : List Step} (hn : (namesOf ss).Nodup) {k : Nat} {done : List Str} (hd : Done ss done) (hk : k + 1 + done.length = ss.length) (i : Nat) : cntTo ss k done i ≤ i * fact k := by
  unfold cntTo
  have := sum_le_mul (xs := ((rdyL ss done).take i).map fun x => cnt ss k (done ++ [x])) (m := fact k) (by
    intro y hy
    obtain ⟨x, hx, rfl⟩ := List.mem_map.1 hy
    exact cnt_le hn k _ (hd.next (List.mem_of_mem_take hx)) (by rw [List.length_append]; simp; omega))
  rw [List.length_map] at this
  exact Nat.le_trans this (Nat.mul_le_mul_right _ (List.length_take_le _ _))

theorem wrap_nat {a b : Nat} (h : a + b ≤ 1048576) : IntKind.i64.wrap ((a : Int) + (b : Int)) = ((a + b : Nat) : Int) := by
  rw [IntWalk.i64_in _ (by omega)]; omega

end Go.Proofs.Ytakeijgoonagcaa

/- Counting orders: the functions. -/
namespace Go.Proofs.Ytakeijgoonagcaa
open Go.RowKit

def cntF (f : Flow) : Int := if flowB f = true ∧ f.steps.length ≤ 6 then (cnt f.steps f.steps.length [] : Nat) else -1

theorem steps_lt {ss : List Step} (h : ∀ j, j < ss.length → stepAt ss j = true) : ∀ j, j < ss.length → ∀ i, i < j → strLt (nth ss i).name (nth ss j).name = true := by
  intro j
  induction j with
  | zero => intro _ i hi; omega
  | succ j ih =>
    intro hj i hi
    have h1 := h (j + 1) hj
    simp only [stepAt, Bool.and_eq_true, Bool.or_eq_true, decide_eq_true_eq] at h1
    have h2 : strLt (nth ss j).name (nth ss (j + 1)).name = true := by
      rcases h1.1.2 with h2 | h2
      · omega
      · simpa using h2
    by_cases e : i = j
    · rw [e]; exact h2
    · exact strLt_trans (ih (by omega) i (by omega)) h2

theorem flow_nodup {f : Flow} (h : flowB f = true) : (namesOf f.steps).Nodup := by
  have h1 := steps_lt (flowB_iff.1 h).1
  unfold List.Nodup
  rw [List.pairwise_iff_getElem]
  intro i j hi hj hij
  rw [namesOf_len] at hi hj
  rw [← nth_eq, ← nth_eq, namesOf_at hi, namesOf_at hj]
  exact strLt_ne (h1 j hj i hij)

end Go.Proofs.Ytakeijgoonagcaa

/- Counting orders: the reference. -/
namespace Go.Proofs.Ytakeijgoonagcaa
open Go.RowKit

theorem sapps_step {w : World} {ops : Array Oper} {o : Oper} {a : Act} {K : Act → World → Prop} {Q : Exit → Act → World → Prop} {E : Prop} (w0 : World) (v : Value) (n : Nat) (cs : List Str) (lo : Nat) (A : Option Addr) (m c : Nat) (ys : List Str) (hown : Own 9 1 w0 w v n (cs.map Value.string))
    (hr : RStr w lo A m ys) (hgd : o.guard = none) (l x : Operand) (ho : o.op = .call { callee := .builtin .append, args := #[l, x], argTypes := #[29, 29] })
    (hs : a.eval l = v) (hx : a.eval x = .slice A m c) (hn : n + m ≤ 4194304)
    (h : ∀ v' w', Own 9 1 w0 w' v' (n + m) ((cs ++ ys).map Value.string) → w.grownBy w' v.ownBlock → K (a.put o.dst v') w') :
    if Region.wanted o (yielded ops a.tmps) = true then Oper.wp Try.prog o a w K Q else E := by
  have hw : Region.wanted o (yielded ops a.tmps) = true := by simp [Region.wanted, hgd]
  rw [if_pos hw]
  exact wappl 29 9 1 16 _ Try.underlying29 info_str rfl (by omega) (by omega) w0.heap.size v n _ (ys.map Value.string) A m c hown.row l x ho hs hx (by rw [List.length_map, hr.1]; omega) (news_str hr) (by simp [Value.oneCell']) hn hown.below.size
    fun v' w' h2 h3 _ => h v' w' (hown.next (by rw [List.map_append]; exact h2) h3) h3

theorem own_new {w0 w : World} {b : Nat} (hb : Below w0.heap.size w0 w) (e : b = w.heap.size) : Own 9 1 w0 (w.alloc (.cells #[] 9)) (.slice (some ⟨b, 0, none⟩) 0 0) 0 (([] : List Str).map Value.string) := by
  subst e
  exact ⟨World.ownsRow_made w #[] 0 hb.size (Nat.zero_le _) rfl, hb.alloc hb.size _⟩

/-- The orders behind those of the first i steps that are ready. -/
def cntS (ss : List Step) (k : Nat) (done : List Str) (i : Nat) : Nat := ((rdyTo ss done i).map fun x => cnt ss k (done ++ [x])).sum
theorem cntS_yes {ss : List Step} {k : Nat} {done : List Str} {i : Nat} (hi : i < ss.length) (h : rdyB done (nth ss i) = true) :
    cntS ss k done (i + 1) = cntS ss k done i + cnt ss k (done ++ [(nth ss i).name]) := by
  unfold cntS; rw [rdyTo_yes hi h, List.map_append, List.sum_append]; simp
theorem cntS_no {ss : List Step} {k : Nat} {done : List Str} {i : Nat} (hi : i < ss.length) (h : rdyB done (nth ss i) = false) : cntS ss k done (i + 1) = cntS ss k done i := by
  unfold cntS; rw [rdyTo_no hi h]
theorem cntS_all {ss : List Step} {k : Nat} {done : List Str} {i : Nat} (hi : ss.length ≤ i) : cntS ss k done i = cnt ss (k + 1) done := by
  unfold cntS; rw [rdyTo_all hi]; rfl
theorem cntS_le {ss : List Step} (hn : (namesOf ss).Nodup) {k : Nat} {done : List Str} (hd : Done ss done) (hk : k + 1 + done.length = ss.length) (i : Nat) : cntS ss k done i ≤ i * fact k := by
  unfold cntS
  have := sum_le_mul (xs := (rdyTo ss done i).map fun x => cnt ss k (done ++ [x])) (m := fact k) (by
    intro y hy
    obtain ⟨x, hx, rfl⟩ := List.mem_map.1 hy
    refine cnt_le hn k _ (hd.next ?_) (by rw [List.length_append]; simp; omega)
    unfold rdyTo at hx
    obtain ⟨s, hs, rfl⟩ := List.mem_map.1 hx
    obtain ⟨h1, h2⟩ := List.mem_filter.1 hs
    exact rdyL_mem.2 ⟨s, List.mem_of_mem_take h1, h2, rfl⟩)
  rw [List.length_map] at this
  exact Nat.le_trans this (Nat.mul_le_mul_right _ (rdyTo_len ss done i))

end Go.Proofs.Ytakeijgoonagcaa

/- Counting orders: the reference's function. -/
namespace Go.Proofs.Ytakeijgoonagcaa
open Go.RowKit

end Go.Proofs.Ytakeijgoonagcaa

/- Drawing flows: some flow. -/
namespace Go.Proofs.Ytakeijgoonagcaa
open Go.RowKit

def nmF : Array Value := #[.string ⟨#[97]⟩, .string ⟨#[98]⟩, .string ⟨#[99]⟩, .string ⟨#[100]⟩, .string ⟨#[101]⟩, .string ⟨#[102]⟩]
theorem nmF_at (k : Nat) (hk : k < 6) : ∃ s : Str, nmF[k]? = some (.string s) ∧ s.size ≤ 5 := by
  match k, hk with
  | 0, _ => exact ⟨⟨#[97]⟩, rfl, by decide⟩
  | 1, _ => exact ⟨⟨#[98]⟩, rfl, by decide⟩
  | 2, _ => exact ⟨⟨#[99]⟩, rfl, by decide⟩
  | 3, _ => exact ⟨⟨#[100]⟩, rfl, by decide⟩
  | 4, _ => exact ⟨⟨#[101]⟩, rfl, by decide⟩
  | 5, _ => exact ⟨⟨#[102]⟩, rfl, by decide⟩

/-- What drawing a flow leaves. -/
def FlowQ (w0 : World) (g q : Nat) (w : World) (e : Ending) (w' : World) : Prop :=
  ∃ (v : Int) (A : Option Addr) (n c : Nat) (ss : List Step), e = .returned (.agg #[.int .i64 v, .slice A n c]) ∧ RStep w' w.heap.size A n ss ∧ okSteps ss ∧ 1 ≤ n ∧ n ≤ 6 ∧ Dr 158 w0 g (q + 100) w' ∧ On g w w'

/-- The head of the outer loop. -/
structure FlowI (w : World) (g q F N : Nat) (ver : Int) (wr : World) (k n : Nat) (A : Option Addr) (c : Nat) (ss : List Step) : Prop where
  kn : n ≤ k
  pos : 0 < k → 0 < n
  ok : okSteps ss
  row : SRow wr (w.heap.size + 1) (.slice A n c) n ss
  dr : Dr 158 w g (q + 10 + 10 * k) wr
  res : wr.heap[w.heap.size]? = some (.cells #[.int .i64 0, .slice none 0 0] 34 (0, 0))
  box : wr.heap[F]? = some (.cells #[.int .i64 ver, .slice A n c] 34 (0, 0))
  nms : wr.heap[N]? = some (.cells nmF 9 (0, 0))
  fw : w.heap.size < F
  nw : w.heap.size < N

/-- The head of the inner loop. -/
structure FlowJ (w2 : World) (g q b : Nat) (s : Str) (u : Bool) (wj : World) (m : Nat) (A : Option Addr) (c : Nat) (ys : List Str) : Prop where
  ok : okS ys
  row : wj.ownsRow w2.heap.size 9 1 (.slice A m c) m (ys.map Value.string)
  dr : Dr 158 w2 g q wj
  box : wj.heap[b]? = some (.cells #[.string s, .slice A m c, .bool u] 75 (0, 0))
theorem FlowJ.len {w2 : World} {g q b : Nat} {s : Str} {u : Bool} {wj : World} {m : Nat} {A : Option Addr} {c : Nat} {ys : List Str} (h : FlowJ w2 g q b s u wj m A c ys) : ys.length = m := by
  have := h.row.1; simpa using this

set_option maxRecDepth 100000 in
set_option maxHeartbeats 4000000 in
theorem l91Flow_any (w0 : World) (g q : Nat) (w : World) (h : Dr 158 w0 g q w) (hq : q ≤ 1099511620000) :
    Calls Try.prog 93 #[.pointer (some ⟨g, 0, none⟩)] w (FlowQ w0 g q w) := by
  have HD := Lib.hid h; clear h
  have hgl := HD.out.lt
  have hd0 := HD.out.here.alloc (.cells #[.int .i64 0, .slice none 0 0] 34)
  go_enter Try.func93, Try.ntmps93
  go_wp2_with fail
  refine (pick w g _ _ _ hd0 (by omega) (by omega)).mono ?_
  rintro e w1 ⟨v, rfl, hv0, hv1, hv2, hd1, hon⟩
  have hv5 : v < 5 := hv1 (by omega)
  clear hv1 hv2 hd0
  have HRES := Lib.hid (hon.blk (b := w.heap.size) (heap_new rfl) (by omega))
  have hs1 := hon.size
  rw [show (w.alloc (.cells #[.int .i64 0, .slice none 0 0] 34)).heap.size = w.heap.size + 1 by simp] at hs1
  have HD1 := Lib.hid hd1; clear hd1 hon
  go_wp2_with fail
  go_loopw [5] (fun i wr => ∃ k n : Nat, ∃ (A : Option Addr) (c : Nat) (ss : List Step), k ≤ 6 ∧ i = .int .i64 k ∧ FlowI w g q (w1.heap.size + 1) (w1.heap.size + 1 + 1) (1 + v) wr k n A c ss) (fun i _ => 6 - (intOf i).toNat)
  case atStart =>
    refine ⟨0, 0, some ⟨w1.heap.size, 0, none⟩, 0, [], by omega, rfl, Nat.le_refl _, fun h => absurd h (by omega), okSteps_nil, ?_, ?_, ?_, ?_, ?_, by omega, by omega⟩
    · exact ((SRow.made (show w.heap.size + 1 ≤ w1.heap.size by omega) rfl).below ((Below.refl _ _).alloc (Nat.le_refl _) _)).below ((Below.refl _ _).alloc (Nat.le_refl _) _)
    · exact (((HD1.out.alloc _).alloc _).alloc _).more (by omega)
    · exact heap_old (heap_old (heap_old HRES.out))
    · exact heap_old (heap_new (by simp))
    · exact heap_new (by simp)
  case round =>
    obtain ⟨wo, rfl⟩ : ∃ wo : World, wo = wr := ⟨_, rfl⟩
    obtain ⟨k, n, A, c, ss, hk, rfl, hI⟩ := hrel
    have HI := Lib.hid hI; clear hI
    have hd0 := HI.out.dr.here
    have hlN := heap_lt HI.out.nms
    have hlF := heap_lt HI.out.box
    by_cases hlt : k < 6
    · obtain ⟨s, hs1, hs2⟩ := nmF_at k hlt
      have c1 := (blk_cl HI.out.nms hs1).1
      clear hs1
      go_wp2_with fail
      refine (pick wo g _ _ _ hd0 (by omega) (by omega)).mono ?_
      rintro e w2 ⟨p, rfl, hp0, hp1, hp2, hd2, hon2⟩
      clear hp1 hp2
      have c2 := (hon2.cell (o := k) hlN (by omega)).trans c1
      clear c1
      have HD2 := Lib.hid hd2; clear hd2
      have HON2 := Lib.hid hon2; clear hon2
      by_cases hskip : p < 1 ∧ 0 < k
      · obtain ⟨h1, h2⟩ := hskip
        have h3 : ((k : Int) == 0) = false := by rw [beq_eq_false_iff_ne]; omega
        go_wp2_with fail
        go_roundw
        case rel =>
          exact ⟨k + 1, n, A, c, ss, by omega, by go_num, by have := HI.out.kn; omega, fun _ => HI.out.pos h2, HI.out.ok, HI.out.row.on HON2.out (by omega), (HI.out.dr.trans HD2.out).more (by omega), HON2.out.blk HI.out.res (by omega), HON2.out.blk HI.out.box (by have := HI.out.fw; omega), HON2.out.blk HI.out.nms (by have := HI.out.nw; omega), HI.out.fw, HI.out.nw⟩
        case measure => simp [intOf]; omega
      · have hyes : 0 < p ∨ (p < 1 ∧ ((k : Int) == 0) = true) := by
          rcases Int.lt_or_le 0 p with h | h
          · exact .inl h
          · refine .inr ⟨by omega, ?_⟩
            rw [beq_iff_eq]; omega
        clear hskip
        have hd3 := HD2.out.here
        have hlN2 : w1.heap.size + 1 + 1 < w2.heap.size := by have := HON2.out.size; omega
        have HSB : Hid (∀ w', On g w2 w' → w'.cell? ⟨w1.heap.size + 1 + 1, k, none⟩ = some (.string s) ∧ On g w2 w') := fun w' h => ⟨(h.cell hlN2 (by omega)).trans c2, h⟩
        have hg0 : g < w2.heap.size := by have := HON2.out.size; omega
        have hg1 : g < w2.heap.size + 1 := by omega
        have hne0 : w2.heap.size ≠ g := by have := HON2.out.size; omega
        have hne1 : w2.heap.size + 1 ≠ g := by have := HON2.out.size; omega
        rcases hyes with hp | ⟨hp, hk0⟩
        all_goals
          go_upto_region 7 with fail
          go_cut [6] (fun s6 wx => ∃ (b bA : Nat) (u : Bool), s6 = .pointer (some ⟨b, 0, none⟩) ∧ wx.heap[b]? = some (.cells #[.string s, .slice (some ⟨bA, 0, none⟩) 0 0, .bool u] 75 (0, 0)) ∧ wx.heap[bA]? = some (.cells #[] 9 (0, 0)) ∧ w2.heap.size ≤ b ∧ w2.heap.size ≤ bA ∧ Dr 158 w2 g (q + 10 + 10 * k + 2) wx)
          case first =>
           go_region_held3 (fun w' => w'.cell? ⟨w1.heap.size + 1 + 1, k, none⟩ = some (.string s) ∧ On g w2 w')
            ((refine HSB.out _ ?_; (repeat (first | with_reducible exact On.refl _ _ | exact hd4.on | refine On.setNew ?_ (by first | exact Nat.le_refl _ | exact Nat.le_succ _ | (simp; done) | omega) _ _ | refine On.drew ?_ | refine On.alloc ?_ _ | fail "x")); done))
            (first | (go_at_call 81; refine (pick w2 g _ _ _ (by repeat (first | with_reducible exact hd3 | apply Dr.drew | apply Dr.alloc)) (by omega) (by omega)).mono ?_; rintro e w3 ⟨v1, rfl, hv3, hv4, hv5, hd4, hon⟩; (first | (have hb1 := hon.blk (b := w2.heap.size + 1) (x := .cells #[.string ⟨#[]⟩, .slice none 0 0, .bool false] 75 (0, 0)) (heap_new (Array.size_push _).symm) hne1; obtain ⟨x0, y0⟩ := blk_cl (k := 0) hb1 rfl; obtain ⟨x1, y1⟩ := blk_cl (k := 1) hb1 rfl; obtain ⟨x2, y2⟩ := blk_cl (k := 2) hb1 rfl; have hz := heap_lt hb1) | (have hb1 := hon.blk (b := w2.heap.size) (x := .cells #[.string ⟨#[]⟩, .slice none 0 0, .bool false] 75 (0, 0)) (heap_new rfl) hne0; obtain ⟨x0, y0⟩ := blk_cl (k := 0) hb1 rfl; obtain ⟨x1, y1⟩ := blk_cl (k := 1) hb1 rfl; obtain ⟨x2, y2⟩ := blk_cl (k := 2) hb1 rfl; have hz := heap_lt hb1) | (have hb1 := hon.blk (b := w2.heap.size) (x := .cells #[.string ⟨#[]⟩, .slice none 0 0, .bool false] 75 (0, 0)) (heap_old (heap_new rfl)) hne0; obtain ⟨x0, y0⟩ := blk_cl (k := 0) hb1 rfl; obtain ⟨x1, y1⟩ := blk_cl (k := 1) hb1 rfl; obtain ⟨x2, y2⟩ := blk_cl (k := 2) hb1 rfl; have hz := heap_lt hb1) | skip)) | fail "no arm")
           all_goals
             go_wp2_with fail
             go_meet
             have hs4 := hd4.on.size
             have ht := Nat.le_trans hs4 (Nat.le_succ _)
             have hm : q + 10 + 10 * k + 1 + 1 ≤ q + 10 + 10 * k + 2 := Nat.le_refl _
             first
               | with_reducible exact ⟨_, _, _, rfl, heap_new rfl, heap_old (hon.blk (heap_new rfl) hne0), hs4, Nat.le_refl _, (hd4.alloc _).more hm⟩
               | with_reducible exact ⟨_, _, _, rfl, heap_new (sz_push _ _), heap_old (heap_new rfl), ht, hs4, ((hd4.alloc _).alloc _).more hm⟩
               | with_reducible exact ⟨_, _, _, rfl, heap_old (heap_new rfl), heap_new (sz_push _ _), hs4, ht, ((hd4.alloc _).alloc _).more hm⟩
               | with_reducible exact ⟨_, _, _, rfl, set3 hb1, set3_ne (hon.blk (heap_old (heap_new rfl)) hne0) (Nat.ne_of_lt (Nat.lt_succ_self _)), Nat.le_succ _, Nat.le_refl _, (hd4.set3 (Nat.le_succ _) hg1).more hm⟩
               | with_reducible exact ⟨_, _, _, rfl, set3 hb1, set3_ne (hon.blk (heap_new (sz_push _ _)) hne1) (Nat.ne_of_gt (Nat.lt_succ_self _)), Nat.le_refl _, Nat.le_succ _, (hd4.set3 (Nat.le_refl _) hg0).more hm⟩
               | with_reducible exact ⟨_, _, _, rfl, heap_old (set3 hb1), heap_new (sz_set3 _ _ _ _ _), Nat.le_refl _, hs4, ((hd4.set3 (Nat.le_refl _) hg0).alloc _).more hm⟩
          case rest =>
           obtain ⟨b, bA, u, rfl, hb, hbA, le1, le2, hdc⟩ := hcut
           have HB := Lib.hid hb; clear hb
           have HBA := Lib.hid hbA; clear hbA
           have HDC := Lib.hid hdc; clear hdc
           have HBL := Lib.hid (heap_lt HBA.out)
           have HROW := Lib.hid (show wc.ownsRow w2.heap.size 9 1 (.slice (some ⟨bA, 0, none⟩) 0 0) 0 (([] : List Str).map Value.string) from ⟨rfl, .inr ⟨bA, 0, #[], rfl, le2, HBA.out, by omega, by unfold maxLen; omega, by simp, by simp⟩⟩)
           have hn6 : n ≤ 6 := by have := HI.out.kn; omega
           have HFw := Lib.hid (fun wj (h : Dr 158 w2 g (q + 10 + 10 * k + 2 + 6) wj) => h.on.blk (HON2.out.blk HI.out.box (by have := HI.out.fw; omega)) (by have := HI.out.fw; omega))
           have HRS := Lib.hid (HI.out.row.on HON2.out (by omega))
           go_wp2_with fail
           go_loopw [7] (fun i wj => ∃ (j m : Nat) (A2 : Option Addr) (c2 : Nat) (ys : List Str), j ≤ n ∧ i = .int .i64 j ∧ m ≤ j ∧ FlowJ w2 g (q + 10 + 10 * k + 2 + j) b s u wj m A2 c2 ys) (fun i _ => n - (intOf i).toNat)
           case atStart => exact ⟨0, 0, _, _, [], Nat.zero_le _, rfl, Nat.le_refl _, okS_nil, HROW.out, HDC.out, HB.out⟩
           case round =>
            obtain ⟨j, m, A2, c2, ys, hj, rfl, hmj, hJ⟩ := hrel
            have HJ := Lib.hid hJ; clear hJ
            have HF := Lib.hid (HFw.out wr (HJ.out.dr.more (by omega)))
            have f1 := (blk_cl (k := 1) HF.out rfl).1
            by_cases hlt2 : j < n
            · obtain ⟨A0, c0, e0, hst⟩ := (HRS.out.on HJ.out.dr.on (by have := HON2.out.size; omega)).hat
              injection e0 with e0 _ e0'
              subst e0; subst e0'
              obtain ⟨bs, os, rfl, ⟨_, hbs⟩, hcs⟩ := RStep.at_ hst hlt2
              obtain ⟨A', n', c', ⟨s1, _, _⟩, _, _⟩ := hcs j hlt2
              clear hcs hst
              have HSZ := Lib.hid (show (nth ss j).name.size ≤ maxLen from (HI.out.ok.2 j (by have := HRS.out.len; omega)).1)
              have hd5 := HJ.out.dr.here
              have b1 := (blk_cl (k := 1) HJ.out.box rfl).1
              have hlF2 := heap_lt HF.out
              have hlB2 := heap_lt HJ.out.box
              go_wp2_with fail
              refine (pick wr g _ _ _ hd5 (by omega) (by omega)).mono ?_
              rintro e w5 ⟨x, rfl, hx0, hx1, hx2, hd6, hon6⟩
              clear hx1 hx2 hd5
              have hbg : b ≠ g := by omega
              have HD6 := Lib.hid hd6; clear hd6
              have HON6 := Lib.hid hon6; clear hon6
              have HB6 := Lib.hid (HON6.out.blk HJ.out.box hbg)
              have HF6 := Lib.hid (HON6.out.blk HF.out (by have := HI.out.fw; omega))
              have HR6 := Lib.hid (row_on HJ.out.row HON6.out (by omega))
              have HS6 := Lib.hid ((HON6.out.cell (o := os + j * 3) hbs (by have := HI.out.row; have := HON2.out.size; have h3 := HRS.out.lt (b := bs) rfl; omega)).trans s1)
              clear b1 f1 s1
              have b1 := (blk_cl (k := 1) HB6.out rfl).1
              have f1 := (blk_cl (k := 1) HF6.out rfl).1
              have s1 := HS6.out
              by_cases hx : x = 0
              · subst hx
                by_cases hm4 : m < 4
                · have hok6 := HJ.out.ok
                  have hl6 := HJ.out.len
                  have hbase : w2.heap.size ≤ w5.heap.size := by have := HON6.out.size; have := HJ.out.dr.on.size; omega
                  have HNB := Lib.hid (row_ne HR6.out HB6.out (by decide))
                  have HNF := Lib.hid (row_ne HR6.out HF6.out (by decide))
                  have b1a := fun o => (World.cell?_alloc_some w5 _ o (by rw [b1]; rfl)).trans b1
                  have f1a := fun o => (World.cell?_alloc_some w5 _ o (by rw [f1]; rfl)).trans f1
                  have s1a := fun o => (World.cell?_alloc_some w5 _ o (by rw [s1]; rfl)).trans s1
                  have HL6 := Lib.hid hl6; clear hl6
                  have HO6 := Lib.hid hok6; clear hok6
                  go_wp2_with fail
                  go_region_law (first | (refine strapp_step (o := ⟨some 61, _, _, _, _, _⟩) w2.heap.size _ m ys _ (nth ss j).name (by exact HR6.out.alloc _) (by rfl) (.tmp 53) (.tmp 60) (by rfl) (by rfl) (by rfl) (by exact heap_new rfl) (by omega) (by simp; omega) ?_; intro v7 w7 how7 hg7 hat7; obtain ⟨A7, c7, rfl, hsr7⟩ := own_sstr how7; have hb7 := grown_blk hg7 (heap_old HB6.out) HNB.out; have z1 := (blk_cl (k := 1) hb7 rfl).1; have z2 := (blk_cl (k := 1) hb7 rfl).2) | fail "no arm")
                  all_goals go_wp2_with fail
                  all_goals exact ⟨⟨j + 1, m + 1, A7, c7, ys ++ [(nth ss j).name], by omega, by go_num, by omega, okS_app HO6.out (by rw [HL6.out]; omega) HSZ.out, row_set how7 hb7 (by decide),
                    ((((((HJ.out.dr.trans HD6.out).alloc _).drew).grown hg7 (fun k hk => by have := HR6.out.lt k hk; omega)).set_ le1 (by omega) _ _).more (by omega)), set31 hb7⟩, by simp [intOf]; omega⟩
                · go_wp2_with fail
                  go_roundw
                  case rel => exact ⟨j + 1, m, A2, c2, ys, by omega, by go_num, by omega, HJ.out.ok, HR6.out, (HJ.out.dr.trans HD6.out).more (by omega), HB6.out⟩
                  case measure => simp [intOf]; omega
              · have hz2 : (x == 0) = false := by rw [beq_eq_false_iff_ne]; exact hx
                go_wp2_with fail
                go_roundw
                case rel => exact ⟨j + 1, m, A2, c2, ys, by omega, by go_num, by omega, HJ.out.ok, HR6.out, (HJ.out.dr.trans HD6.out).more (by omega), HB6.out⟩
                case measure => simp [intOf]; omega
            · have HDR := Lib.hid HJ.out.dr
              have HLY := Lib.hid HJ.out.len
              have hson := HON2.out.size
              have hdon := HDR.out.on.size
              have hm6 : m ≤ 6 := by omega
              have HRJ := Lib.hid (HRS.out.on HDR.out.on (by omega))
              obtain ⟨A3, c3, e3, hss⟩ := own_sstr HJ.out.row
              injection e3 with e3 _ e3'
              subst e3; subst e3'
              have HSS := Lib.hid (hss.mono (show w.heap.size + 1 ≤ w2.heap.size by have := HI.out.fw; omega)); clear hss
              have b0 := (blk_cl (k := 0) HJ.out.box rfl).1
              have b1 := (blk_cl (k := 1) HJ.out.box rfl).1
              have b2 := (blk_cl (k := 2) HJ.out.box rfl).1
              go_wp2_with (at_builtin; refine app_stepW (w.heap.size + 1) _ n ss _ ⟨s, ys, u⟩ A2 m c2 ?r0 ?r1 rfl (.tmp 64) (.tmp 66) rfl rfl rfl ?r2 (by omega) ?r3 ?_)
              case r0 => exact HRJ.out.below ((Below.refl _ _).alloc (Nat.le_refl _) _)
              case r1 => exact HSS.out.below ((Below.refl _ _).alloc (Nat.le_refl _) _)
              case r2 => first | exact heap_new rfl | exact Array.getElem_push_eq | (simp; done)
              case r3 => have := HI.out.fw; first | omega | (simp; omega)
              intro v9 w9 hrow9 hg9 hat9
              obtain ⟨A9, c9, rfl, _⟩ := hrow9.hat
              have hb9 := grown_blk hg9 (heap_old HF.out) (HRJ.out.ne HF.out (by decide))
              have z1 := (blk_cl (k := 1) hb9 rfl).1
              have z2 := (blk_cl (k := 1) hb9 rfl).2
              have HB9 := Lib.hid hb9; clear hb9
              have HROW9 := Lib.hid hrow9; clear hrow9
              have HG9 := Lib.hid hg9; clear hg9
              clear hat9
              go_wp2_with fail
              have HRES2 := Lib.hid (show wr.heap[w.heap.size]? = some (.cells #[.int .i64 0, .slice none 0 0] 34 (0, 0)) from HDR.out.on.blk (HON2.out.blk HI.out.res (by omega)) (by omega))
              have HNM2 := Lib.hid (HDR.out.on.blk (HON2.out.blk HI.out.nms (by have := HI.out.nw; omega)) (by have := HI.out.nw; omega))
              have hfw := HI.out.fw
              go_roundw
              case rel =>
                refine ⟨k + 1, n + 1, A9, c9, ss ++ [⟨s, ys, u⟩], by omega, by go_num, by have := HI.out.kn; omega, fun _ => by omega, okSteps_app HI.out.ok (by rw [HRS.out.len]; omega) ⟨by unfold maxLen; show s.size ≤ _; omega, HJ.out.ok⟩, HROW9.out.set HB9.out (by decide) (by decide), ?_, ?_, set21 HB9.out, ?_, HI.out.fw, HI.out.nw⟩
                · exact (((((HI.out.dr.trans HD2.out).trans HDR.out).alloc _).grown HG9.out (fun i hi => by have := HRJ.out.lt (b := i) hi; omega)).set_ (by omega) (by omega) _ _).more (by omega)
                · exact set_ne (grown_blk HG9.out (heap_old HRES2.out) (HRJ.out.ne HRES2.out (by decide))) (by omega)
                · exact set_ne (grown_blk HG9.out (heap_old HNM2.out) (HRJ.out.ne HNM2.out (by decide))) (by omega)
              case measure => simp [intOf]; omega
    · have hk6 : 0 < n := HI.out.pos (by omega)
      have hn6 : n ≤ 6 := by have := HI.out.kn; omega
      have HRW := Lib.hid HI.out.row.hat
      obtain ⟨A0, c0, e0, hst⟩ := HRW.out
      injection e0 with e0 _ e0'
      subst e0; subst e0'
      obtain ⟨bs, os, rfl, ⟨hbs1, hbs2⟩, hcs⟩ := RStep.at_ hst hk6
      obtain ⟨A', n', c', ⟨_, s2, _⟩, _, ⟨_, s2', _⟩⟩ := hcs 0 hk6
      obtain ⟨An, nn, cn, ⟨s3, _, _⟩, _, _⟩ := hcs (n - 1) (by omega)
      clear hcs
      have HST := Lib.hid hst; clear hst
      have hgo := HI.out.dr.on.size
      go_wp2_with fail
      refine (pick wo g _ _ _ hd0 (by omega) (by omega)).mono ?_
      rintro e w2 ⟨x, rfl, hx0, hx1, hx2, hd2, hon2⟩
      clear hx1 hx2 hd0
      have hb2 := hon2.blk HI.out.box (by have := HI.out.fw; omega)
      have hr2 := hon2.blk HI.out.res (by omega)
      have HST2 := Lib.hid (HST.out.on hon2 (by omega))
      have f0 := (blk_cl (k := 0) hb2 rfl).1
      have f0' := (blk_cl (k := 0) hb2 rfl).2
      have f1 := (blk_cl (k := 1) hb2 rfl).1
      have r0a := (blk_cl (k := 0) hr2 rfl).1
      have r0b := (blk_cl (k := 0) hr2 rfl).2
      have r1a := (blk_cl (k := 1) hr2 rfl).1
      have r1b := (blk_cl (k := 1) hr2 rfl).2
      have HR2 := Lib.hid hr2; clear hr2
      have HB2 := Lib.hid hb2; clear hb2
      have HD2 := Lib.hid (HI.out.dr.trans hd2)
      have s2w := (hon2.cell hbs2 (by omega)).trans s2
      have s2f := (hon2.frozen hbs2 (by omega)).trans s2'
      have s3w := (hon2.cell hbs2 (by omega)).trans s3
      rw [Nat.zero_mul, Nat.add_zero] at s2w s2f
      have hfb : bs ≠ w1.heap.size + 1 := by
        intro e
        have := HI.out.row.ne HI.out.box (by decide)
        simp [Value.ownBlock] at this
        exact this e
      have hbs3 : bs < w2.heap.size := by have := hon2.size; omega
      clear s2 s2' s3
      have hrF : w1.heap.size + 1 ≠ w.heap.size := by omega
      by_cases h0 : x = 0
      · subst h0
        clear s2w s2f s3w
        go_wp2_with fail
        refine (pick w g _ _ _ (HD2.out.alloc _) (by omega) (by omega)).mono ?_
        rintro e w3 ⟨m, rfl, hm0, hm1, hm2, hd3, hon3⟩
        obtain ⟨m, rfl⟩ := Int.eq_ofNat_of_zero_le hm0
        have hmn : m < 3 := by have := hm1 (by omega); omega
        clear hm1 hm0 hm2
        obtain ⟨y, hy⟩ := lit3_at 0 99 100 m hmn
        have d5 := (blk_cl (hon3.blk (heap_new rfl) (by have := HD2.out.lt; omega)) hy).1
        clear hy
        have hb3 := hon3.blk (heap_old HB2.out) (by omega)
        have hr3 := hon3.blk (heap_old HR2.out) (by omega)
        have HST3 := Lib.hid ((HST2.out.alloc (.cells #[.int .i64 0, .int .i64 99, .int .i64 100] 3)).on hon3 (by omega))
        clear f0 f0' f1 r0a r0b r1a r1b hd2 hon2
        have HB3 := Lib.hid hb3; clear hb3
        have HR3 := Lib.hid hr3; clear hr3
        have HD3 := Lib.hid hd3; clear hd3
        have HR4 := Lib.hid (set_ne (b := w1.heap.size + 1) (o := 0) (u := .int .i64 y) HR3.out hrF.symm)
        have HB4 := Lib.hid (set20 (u := .int .i64 y) HB3.out)
        have f0 := (blk_cl (k := 0) HB3.out rfl).1
        have f0' := (blk_cl (k := 0) HB3.out rfl).2
        have g0 := (blk_cl (k := 0) HB4.out rfl).1
        have g1 := (blk_cl (k := 1) HB4.out rfl).1
        have r0a := (blk_cl (k := 0) HR4.out rfl).1
        have r0b := (blk_cl (k := 0) HR3.out rfl).2
        have r1a := (blk_cl (k := 1) HR4.out rfl).1
        have r1b := (blk_cl (k := 1) HR3.out rfl).2
        clear hon3
        go_wp2_with fail
        have hres := set21 (u := .slice (some ⟨bs, os, none⟩) n c) (set20 (u := .int .i64 y) HR4.out)
        have e0 := (blk_cl (k := 0) hres rfl).1
        have e1 := (blk_cl (k := 1) hres rfl).1
        have hdr := ((HD3.out.set_ (b := w1.heap.size + 1) (by omega) (by omega) 0 (.int .i64 y)).set_ (Nat.le_refl _) hgl 0 (.int .i64 y)).set_ (Nat.le_refl _) hgl 1 (.slice (some ⟨bs, os, none⟩) n c)
        refine bodyPost_ret (v := .agg #[.int .i64 y, .slice (some ⟨bs, os, none⟩) n c]) (by simp [results, Try.results93, go_sem, e0, e1]) rfl ⟨_, _, _, _, _, rfl, (((RStep.setInt HST3.out ⟨f0, f0'⟩).setLow (Nat.lt_succ_self _)).setLow (Nat.lt_succ_self _)).lower (Nat.le_succ _), HI.out.ok, hk6, hn6, (HD.out.trans hdr).more (by omega), hdr.on⟩
      by_cases h1 : x = 1
      · subst h1
        have hw1 : IntKind.i64.wrap ((n : Int) - 1) = ((n - 1 : Nat) : Int) := by rw [IntWalk.i64_in _ (by omega)]; omega
        have hn1 : ((n - 1 : Nat) : Int) < (n : Int) := by omega
        have hn0 : (0 : Int) ≤ ((n - 1 : Nat) : Int) := by omega
        have hn2 : ((n - 1 : Nat) : Int).toNat = n - 1 := by omega
        have HSZ := Lib.hid (show (nth ss (n - 1)).name.size ≤ maxLen from (HI.out.ok.2 (n - 1) (by rw [HST.out.1]; omega)).1)
        have HSB : Hid (∀ w', Below w2.heap.size w2 w' → w'.cell? ⟨w1.heap.size + 1, 1, none⟩ = some (.slice (some ⟨bs, os, none⟩) n c) ∧ w'.cell? ⟨bs, os + (n - 1) * 3, none⟩ = some (.string (nth ss (n - 1)).name)) := fun w' h => ⟨(h.cell (p := ⟨_, _, none⟩) (heap_lt HB2.out)).trans f1, (h.cell (p := ⟨_, _, none⟩) hbs3).trans s3w⟩
        have HSC : Hid (((w2.setCell ⟨bs, os + 1, none⟩ (.slice (some ⟨w2.heap.size, 0, none⟩) 1 1)).alloc (.cells #[.string (nth ss (n - 1)).name] 9)).drew.cell? ⟨w1.heap.size + 1, 1, none⟩ = some (.slice (some ⟨bs, os, none⟩) n c) ∧
            ((w2.setCell ⟨bs, os + 1, none⟩ (.slice (some ⟨w2.heap.size, 0, none⟩) 1 1)).alloc (.cells #[.string (nth ss (n - 1)).name] 9)).drew.cell? ⟨bs, os + (n - 1) * 3, none⟩ = some (.string (nth ss (n - 1)).name)) :=
          ⟨(blk_cl (k := 1) (heap_old (set_ne HB2.out (Ne.symm hfb))) rfl).1, by
            have e := World.cell?_setCell_other w2 ⟨bs, os + 1, none⟩ ⟨bs, os + (n - 1) * 3, none⟩ (.slice (some ⟨w2.heap.size, 0, none⟩) 1 1) (fun e => by injection e; omega)
            exact ((World.cell?_alloc_some _ _ _ (by rw [e, s3w]; rfl)).trans e).trans s3w⟩
        go_wp2_with fail
        go_region_held3 (fun w' => w'.cell? ⟨w1.heap.size + 1, 1, none⟩ = some (.slice (some ⟨bs, os, none⟩) n c) ∧ w'.cell? ⟨bs, os + (n - 1) * 3, none⟩ = some (.string (nth ss (n - 1)).name))
          (first | exact HSB.out _ (Below.refl _ _).drew | exact HSB.out _ ((Below.refl _ _).alloc (Nat.le_refl _) _).drew | exact HSC.out | fail "keep")
          (fail)
        have HSL := Lib.hid ((lit_str (w := w2) (e := 9) (cs := #[.string (nth ss (n - 1)).name]) [(nth ss (n - 1)).name] 1 rfl rfl).lower (show w.heap.size + 1 ≤ w2.heap.size by omega))
        have HSA := Lib.hid (RStep.setAfter (j := 0) (d := 1) (HST2.out.alloc (.cells #[.string (nth ss (n - 1)).name] 9)) hk6 HSL.out)
        rw [Nat.zero_mul, Nat.add_zero, World.setCell_alloc_past _ _ _ _ hbs3] at HSA
        have HB4 := Lib.hid (heap_old (o := .cells #[.string (nth ss (n - 1)).name] 9) (set_ne (b := bs) (o := os + 1) (u := .slice (some ⟨w2.heap.size, 0, none⟩) 1 1) HB2.out (Ne.symm hfb)))
        have HR4 := Lib.hid (heap_old (o := .cells #[.string (nth ss (n - 1)).name] 9) (set_ne (b := bs) (o := os + 1) (u := .slice (some ⟨w2.heap.size, 0, none⟩) 1 1) HR2.out (by omega)))
        have g0 := (blk_cl (k := 0) HB4.out rfl).1
        have g1 := (blk_cl (k := 1) HB4.out rfl).1
        have r0c := (blk_cl (k := 0) HR4.out rfl).1
        have r1c := (blk_cl (k := 1) HR4.out rfl).1
        have r0d := (blk_cl (k := 0) HR4.out rfl).2
        have r1d := (blk_cl (k := 1) HR4.out rfl).2
        go_wp2_with fail
        have hres := set21 (u := .slice (some ⟨bs, os, none⟩) n c) (set20 (u := .int .i64 (1 + v)) HR4.out)
        have e0 := (blk_cl (k := 0) hres rfl).1
        have e1 := (blk_cl (k := 1) hres rfl).1
        have hdr := (((HD2.out.set_ (b := bs) (by omega) (by omega) (os + 1) (.slice (some ⟨w2.heap.size, 0, none⟩) 1 1)).alloc (.cells #[.string (nth ss (n - 1)).name] 9)).set_ (Nat.le_refl _) hgl 0 (.int .i64 (1 + v))).set_ (Nat.le_refl _) hgl 1 (.slice (some ⟨bs, os, none⟩) n c)
        refine bodyPost_ret (v := .agg #[.int .i64 (1 + v), .slice (some ⟨bs, os, none⟩) n c]) (by simp [results, Try.results93, go_sem, World.cell?_drew, e0, e1]) rfl ⟨_, _, _, _, _, rfl, (((HSA.out.setLow (Nat.lt_succ_self _)).setLow (Nat.lt_succ_self _)).lower (Nat.le_succ _)).drew, okSteps_set HI.out.ok (okS_one HSZ.out), hk6, hn6, ((HD.out.trans hdr).more (by omega)).drew, hdr.on.drew⟩
      by_cases h2 : x = 2
      · subst h2
        clear s3w
        have HSL := Lib.hid ((lit_str (w := w2) (e := 9) (cs := #[.string ⟨#[122, 122]⟩]) [⟨#[122, 122]⟩] 1 rfl rfl).lower (show w.heap.size + 1 ≤ w2.heap.size by omega))
        have HSA := Lib.hid (RStep.setAfter (j := 0) (d := 1) (HST2.out.alloc (.cells #[.string ⟨#[122, 122]⟩] 9)) hk6 HSL.out)
        rw [Nat.zero_mul, Nat.add_zero, World.setCell_alloc_past _ _ _ _ hbs3] at HSA
        have HB4 := Lib.hid (heap_old (o := .cells #[.string ⟨#[122, 122]⟩] 9) (set_ne (b := bs) (o := os + 1) (u := .slice (some ⟨w2.heap.size, 0, none⟩) 1 1) HB2.out (Ne.symm hfb)))
        have HR4 := Lib.hid (heap_old (o := .cells #[.string ⟨#[122, 122]⟩] 9) (set_ne (b := bs) (o := os + 1) (u := .slice (some ⟨w2.heap.size, 0, none⟩) 1 1) HR2.out (by omega)))
        have g0 := (blk_cl (k := 0) HB4.out rfl).1
        have g1 := (blk_cl (k := 1) HB4.out rfl).1
        have r0c := (blk_cl (k := 0) HR4.out rfl).1
        have r1c := (blk_cl (k := 1) HR4.out rfl).1
        have r0d := (blk_cl (k := 0) HR4.out rfl).2
        have r1d := (blk_cl (k := 1) HR4.out rfl).2
        go_wp2_with fail
        have hres := set21 (u := .slice (some ⟨bs, os, none⟩) n c) (set20 (u := .int .i64 (1 + v)) HR4.out)
        have e0 := (blk_cl (k := 0) hres rfl).1
        have e1 := (blk_cl (k := 1) hres rfl).1
        have hdr := (((HD2.out.set_ (b := bs) (by omega) (by omega) (os + 1) (.slice (some ⟨w2.heap.size, 0, none⟩) 1 1)).alloc (.cells #[.string ⟨#[122, 122]⟩] 9)).set_ (Nat.le_refl _) hgl 0 (.int .i64 (1 + v))).set_ (Nat.le_refl _) hgl 1 (.slice (some ⟨bs, os, none⟩) n c)
        refine bodyPost_ret (v := .agg #[.int .i64 (1 + v), .slice (some ⟨bs, os, none⟩) n c]) (by simp [results, Try.results93, go_sem, e0, e1]) rfl ⟨_, _, _, _, _, rfl, ((HSA.out.setLow (Nat.lt_succ_self _)).setLow (Nat.lt_succ_self _)).lower (Nat.le_succ _), okSteps_set HI.out.ok (okS_one (by unfold maxLen; decide)), hk6, hn6, (HD.out.trans hdr).more (by omega), hdr.on⟩
      have q0 : (x == 0) = false := by rw [beq_eq_false_iff_ne]; exact h0
      have q1 : (x == 1) = false := by rw [beq_eq_false_iff_ne]; exact h1
      have q2 : (x == 2) = false := by rw [beq_eq_false_iff_ne]; exact h2
      go_wp2_with fail
      have hres := set21 (u := .slice (some ⟨bs, os, none⟩) n c) (set20 (u := .int .i64 (1 + v)) HR2.out)
      have e0 := (blk_cl (k := 0) hres rfl).1
      have e1 := (blk_cl (k := 1) hres rfl).1
      have hdr := (HD2.out.set_ (Nat.le_refl _) hgl 0 (.int .i64 (1 + v))).set_ (Nat.le_refl _) hgl 1 (.slice (some ⟨bs, os, none⟩) n c)
      refine bodyPost_ret (v := .agg #[.int .i64 (1 + v), .slice (some ⟨bs, os, none⟩) n c]) (by simp [results, Try.results93, go_sem, e0, e1]) rfl ⟨_, _, _, _, _, rfl, ((HST2.out.setLow (Nat.lt_succ_self _)).setLow (Nat.lt_succ_self _)).lower (Nat.le_succ _), HI.out.ok, hk6, hn6, (HD.out.trans hdr).more (by omega), hdr.on⟩
end Go.Proofs.Ytakeijgoonagcaa

/- Drawing a flow out of a code. -/
namespace Go.Proofs.Ytakeijgoonagcaa
open Go.RowKit

def FlowD (w : World) (e : Ending) (w' : World) : Prop :=
  ∃ (v : Int) (A : Option Addr) (n c : Nat) (ss : List Step), e = .returned (.agg #[.int .i64 v, .slice A n c]) ∧ RStep w' w.heap.size A n ss ∧ okSteps ss ∧ 1 ≤ n ∧ n ≤ 6 ∧ Below w.heap.size w w'
theorem RByte.below {w w' : World} {A : Option Addr} {n : Nat} (h : RByte w A n) (hb : Below w.heap.size w w') : RByte w' A n := fun h0 => by
  obtain ⟨b, off, e, h1, h2⟩ := h h0
  refine ⟨b, off, e, Nat.lt_of_lt_of_le h1 hb.size, fun k hk => ?_⟩
  obtain ⟨u, hu, hc⟩ := h2 k hk
  exact ⟨u, hu, (hb.cell (p := ⟨b, off + k, none⟩) h1).trans hc⟩
theorem RByte.alloc {w : World} {A : Option Addr} {n : Nat} (h : RByte w A n) (o : Obj) : RByte (w.alloc o) A n := h.below ((Below.refl _ _).alloc (Nat.le_refl _) o)

end Go.Proofs.Ytakeijgoonagcaa

/- Runs: the order of what is done, the reference's side. -/
namespace Go.Proofs.Ytakeijgoonagcaa
open Go.RowKit

theorem idx_ex {xs : List Str} {s : Str} (h : s ∈ xs) : ∃ p : Nat, p < xs.length ∧ idxI xs s = p ∧ nth xs p = s ∧ ∀ j, j < p → nth xs j ≠ s := by
  obtain ⟨k, hk, he⟩ := nth_of_mem h
  induction k using Nat.strongRecOn with
  | _ k ih =>
    by_cases hx : ∃ j, j < k ∧ nth xs j = s
    · obtain ⟨j, hj, hjs⟩ := hx
      exact ih j hj (by omega) hjs
    · exact ⟨k, hk, idxI_at (fun j hj e => hx ⟨j, hj, e⟩) hk he, he, fun j hj e => hx ⟨j, hj, e⟩⟩
/-- A step's place. -/
def plc (ss : List Step) (x : Str) : Nat := (idxI (namesOf ss) x).toNat
theorem plc_ex {ss : List Step} {x : Str} (h : hasB (namesOf ss) x = true) : plc ss x < ss.length ∧ idxI (namesOf ss) x = (plc ss x : Int) ∧ (nth ss (plc ss x)).name = x := by
  obtain ⟨p, h1, h2, h3, _⟩ := idx_ex (hasB_true.1 h)
  have e : plc ss x = p := by unfold plc; rw [h2]; rfl
  rw [namesOf_len] at h1
  rw [namesOf_at h1] at h3
  rw [e]
  exact ⟨h1, h2, h3⟩
/-- What is done as number i could be done then. -/
def ordAt (ss : List Step) (done : List Str) (i : Nat) : Bool := hasB (namesOf ss) (nth done i) && !hasB (done.take i) (nth done i) && haveB (done.take i) (nth ss (plc ss (nth done i))).after
def ordB (ss : List Step) (done : List Str) : Bool := allN done.length (ordAt ss done)
theorem first_at {done : List Str} {k : Nat} (hk : k < done.length) : (hasB (done.take k) (nth done k) = true ∧ ∃ q : Nat, q < k ∧ idxI done (nth done k) = q) ∨ (hasB (done.take k) (nth done k) = false ∧ idxI done (nth done k) = k) := by
  obtain ⟨p, h1, h2, h3, h4⟩ := idx_ex (mem_nth hk)
  have hpk : p ≤ k := by
    rcases Nat.lt_or_ge k p with h | h
    · exact absurd rfl (h4 k h)
    · exact h
  have e : ∀ j, j < k → nth (done.take k) j = nth done j := fun j hj => by
    rw [nth_eq (by rw [List.length_take]; omega), nth_eq (by omega), List.getElem_take]
  rcases Nat.lt_or_eq_of_le hpk with h | h
  · refine .inl ⟨hasB_true.2 ?_, p, h, h2⟩
    rw [← h3, ← e p h]
    exact mem_nth (by rw [List.length_take]; omega)
  · subst h
    refine .inr ⟨hasB_false.2 fun hm => ?_, h2⟩
    obtain ⟨j, hj, hje⟩ := nth_of_mem hm
    rw [List.length_take] at hj
    rw [e j (by omega)] at hje
    exact h4 j (by omega) hje

set_option maxRecDepth 100000 in
set_option maxHeartbeats 1000000 in
theorem l3Order_any (A B : Option Addr) (n c m d : Nat) (ss : List Step) (done : List Str) (lo lo' : Nat) (w : World) (hr : RStep w lo A n ss) (hok : okSteps ss) (hd : RStr w lo' B m done) (hm : m ≤ 1048576) (hmd : m ≤ d) :
    Calls Try.prog 125 #[.slice A n c, .slice B m d] w fun e w' => e = .returned (.bool (ordB ss done)) ∧ ∃ q, w' = w.drewN q := by
  have hn : n ≤ 1048576 := by have := hok.1; rw [hr.1] at this; exact this
  have HO := Lib.hid hok; clear hok
  have HR := Lib.hid hr; clear hr
  have HD := Lib.hid hd; clear hd
  have HL := Lib.hid HD.out.1
  go_enter Try.func125, Try.ntmps125
  go_wp2_with fail
  go_loopw [5] (fun i wr => ∃ k q : Nat, k ≤ m ∧ i = .int .i64 k ∧ wr = w.drewN q ∧ ∀ j, j < k → ordAt ss done j = true) (fun i _ => m - (intOf i).toNat)
  case atStart => exact ⟨0, 0, Nat.zero_le _, rfl, rfl, fa_zero⟩
  case round =>
    obtain ⟨k, q, hk, rfl, rfl, hp⟩ := hrel
    have HP := Lib.hid hp; clear hp
    by_cases hlt : k < m
    · obtain ⟨b, off, rfl, _, hc⟩ := RStr.at_ HD.out hlt
      have x1 := (hc k hlt).1
      clear hc
      have hkl : k < done.length := by rw [HL.out]; exact hlt
      have HAT := Lib.hid (fun z => l2At_any A n c ss (nth done k) _ _ (HR.out.drewN z) hn)
      cases h1 : hasB (namesOf ss) (nth done k)
      · have h9 := idx_neg h1
        have h10 : decide (idxI (namesOf ss) (nth done k) < 0) = true := by rw [decide_eq_true_iff]; exact h9
        have HB : Hid (ordB ss done = false) := allN_false hkl (by unfold ordAt; rw [h1]; rfl)
        clear h1
        go_wp2_with (go_at_call 105; refine (HAT.out _).mono ?_; rintro e w' ⟨rfl, rfl⟩)
        go_quiet (fail)
        go_wp2_with fail
        go_ret
        exact ⟨ret_b HB.out.symm, _, World.drewN_drewN _ _ _⟩
      · obtain ⟨hpl, hidx, hnm⟩ := plc_ex h1
        have HPA := Lib.hid (show ordAt ss done k = (!hasB (done.take k) (nth done k) && haveB (done.take k) (nth ss (plc ss (nth done k))).after) by unfold ordAt; rw [h1]; rfl)
        have HS := Lib.hid (HO.out.2 _ hpl).2
        clear h1 hnm
        generalize plc ss (nth done k) = p at *
        have hpn : p < n := by rw [← HR.out.1]; exact hpl
        have hp0 : decide ((p : Int) < 0) = false := by rw [decide_eq_false_iff_not]; omega
        have hkk : decide ((k : Int) < (k : Int)) = false := by rw [decide_eq_false_iff_not]; omega
        obtain ⟨b1, off1, rfl, ⟨_, hbr⟩, hc⟩ := RStep.at_ HR.out hpn
        obtain ⟨A', n', c', ⟨y1, y2, y3⟩, ha, _⟩ := hc p hpn
        clear hc hpl
        have hn' : n' ≤ 1048576 := by have := HS.out.1; rw [ha.1] at this; exact this
        have H1 := Lib.hid (fun z => l1At_any _ _ d done (nth done k) _ _ (HD.out.drewN z) hm)
        have H2 := Lib.hid (fun z => l1Have_any _ _ _ d _ c' (done.take k) (nth ss p).after _ _ _ ((HD.out.drewN z).take hk) (by omega) (ha.drewN z) hn')
        clear ha
        rcases first_at hkl with ⟨hf, j, hj, hj2⟩ | ⟨hf, hj2⟩
        · have HB : Hid (ordB ss done = false) := allN_false hkl (by rw [HPA.out, hf]; rfl)
          clear hf
          have hjk : decide ((j : Int) < (k : Int)) = true := by rw [decide_eq_true_iff]; omega
          go_wp2_with (go_at_call 105; refine (HAT.out _).mono ?_; rintro e w' ⟨rfl, rfl⟩; rw [hidx])
          rw [hj2] at H1
          go_quiet ((go_at_call 152; exact q_same2 (H1.out _)))
          go_wp2_with fail
          go_ret
          exact ⟨ret_b HB.out.symm, _, World.drewN_drewN _ _ _⟩
        · rw [hf] at HPA
          clear hf
          rw [hj2] at H1
          cases hh : haveB (done.take k) (nth ss p).after
          · rw [hh] at H2
            have HB : Hid (ordB ss done = false) := allN_false hkl (by rw [HPA.out, hh]; rfl)
            clear hh
            go_wp2_with (go_at_call 105; refine (HAT.out _).mono ?_; rintro e w' ⟨rfl, rfl⟩; rw [hidx])
            go_quiet ((first | (go_at_call 152; exact q_same2 (H1.out _)) | (go_at_call 158; exact q_same2 (H2.out _))))
            go_wp2_with fail
            go_ret
            exact ⟨ret_b HB.out.symm, _, World.drewN_drewN _ _ _⟩
          · rw [hh] at H2
            have HB : Hid (ordAt ss done k = true) := by rw [HPA.out, hh]; rfl
            clear hh
            go_wp2_with (go_at_call 105; refine (HAT.out _).mono ?_; rintro e w' ⟨rfl, rfl⟩; rw [hidx])
            go_quiet ((first | (go_at_call 152; exact q_same2 (H1.out _)) | (go_at_call 158; exact q_same2 (H2.out _))))
            go_wp2_with fail
            go_roundw
            case rel => exact ⟨k + 1, _, by omega, by go_num, rfl, fa_succ HP.out HB.out⟩
            case measure => simp [intOf]; omega
    · obtain rfl : k = m := by omega
      go_wp2_with fail
      go_ret
      exact ⟨ret_b (allN_true (fun j hj => HP.out j (by rw [HL.out] at hj; omega))).symm, _, rfl⟩
end Go.Proofs.Ytakeijgoonagcaa

/- Runs: validity, the reference's side. -/
namespace Go.Proofs.Ytakeijgoonagcaa
open Go.RowKit

/-- How many of the first k stay if all are undone from the end. -/
def leftN (ss : List Step) (done : List Str) : Nat → Nat
  | 0 => 0
  | k + 1 => if (nth ss (plc ss (nth done k))).undo = true then leftN ss done k else k + 1
theorem leftN_le (ss : List Step) (done : List Str) : ∀ k, leftN ss done k ≤ k
  | 0 => Nat.le_refl _
  | k + 1 => by
    unfold leftN
    split
    · exact Nat.le_succ_of_le (leftN_le ss done k)
    · exact Nat.le_refl _

set_option maxRecDepth 100000 in
theorem l3Left_any (A B : Option Addr) (n c m d : Nat) (ss : List Step) (done : List Str) (lo lo' : Nat) (w : World) (hr : RStep w lo A n ss) (hn : n ≤ 1048576) (hd : RStr w lo' B m done) (hm : m ≤ 1048576) (hall : ∀ j, j < m → hasB (namesOf ss) (nth done j) = true) :
    Calls Try.prog 156 #[.slice A n c, .slice B m d] w fun e w' => e = .returned (.int .i64 (leftN ss done m : Nat)) ∧ w = w' := by
  have HR := Lib.hid hr; clear hr
  have HD := Lib.hid hd; clear hd
  have HA := Lib.hid hall; clear hall
  go_enter Try.func156, Try.ntmps156
  go_wp2_with fail
  go_loop [5] (fun i => ∃ k : Nat, k ≤ m ∧ i = .int .i64 k ∧ leftN ss done k = leftN ss done m) (fun i => (intOf i).toNat)
  case atStart => exact ⟨m, Nat.le_refl _, rfl, rfl⟩
  case round =>
    obtain ⟨k, hk, rfl, hp⟩ := hrel
    have HP := Lib.hid hp; clear hp
    cases k with
    | zero =>
      go_wp2_with fail
      go_ret
      exact ⟨ret_i (by rw [← HP.out]; rfl), rfl⟩
    | succ k =>
      have hlt : k < m := hk
      obtain ⟨b, off, rfl, _, hc⟩ := RStr.at_ HD.out hlt
      have x1 := (hc k hlt).1
      clear hc
      obtain ⟨hpl, hidx, _⟩ := plc_ex (HA.out k hlt)
      have HLF := Lib.hid (show leftN ss done (k + 1) = if (nth ss (plc ss (nth done k))).undo = true then leftN ss done k else k + 1 from rfl)
      generalize plc ss (nth done k) = p at *
      have hpn : p < n := by rw [← HR.out.1]; exact hpl
      obtain ⟨b1, off1, rfl, ⟨_, hbr⟩, hc⟩ := RStep.at_ HR.out hpn
      obtain ⟨A', n', c', ⟨y1, y2, y3⟩, _, _⟩ := hc p hpn
      clear hc hpl
      have hk0 : decide ((0 : Int) < ((k + 1 : Nat) : Int)) = true := by rw [decide_eq_true_iff]; omega
      have hk1 : decide ((0 : Int) < (k : Int) + 1) = true := by rw [decide_eq_true_iff]; omega
      cases hu : (nth ss p).undo
      · rw [hu] at y3 HLF
        clear hu
        go_wp2_with (go_at_call 105; refine (l2At_any _ _ c ss (nth done k) _ _ HR.out hn).mono ?_; rintro e w' ⟨rfl, rfl⟩; rw [hidx])
        go_ret
        exact ⟨ret_i (by rw [← HP.out, HLF.out]; simp), rfl⟩
      · rw [hu] at y3 HLF
        clear hu
        go_wp2_with (go_at_call 105; refine (l2At_any _ _ c ss (nth done k) _ _ HR.out hn).mono ?_; rintro e w' ⟨rfl, rfl⟩; rw [hidx])
        go_round
        case rel => exact ⟨k, by omega, by go_num, by rw [← HP.out, HLF.out]; simp⟩
        case measure => simp [intOf]

/-- A run of a flow. -/
def runB (f : Flow) (st : Int) (done : List Str) : Bool :=
  flowB f && (ordB f.steps done && (if st = 0 then decide (done.length < f.steps.length) else if st = 2 then decide (done.length = f.steps.length)
    else if st = 1 then decide (done.length < f.steps.length) && decide (leftN f.steps done done.length < done.length)
    else if st = 3 then decide (done.length < f.steps.length) && decide (leftN f.steps done done.length = done.length) else false))
theorem ord_all {ss : List Step} {done : List Str} (h : ordB ss done = true) : ∀ j, j < done.length → hasB (namesOf ss) (nth done j) = true := fun j hj => by
  have := allN_iff.1 h j hj
  unfold ordAt at this
  simp only [Bool.and_eq_true] at this
  exact this.1.1

set_option maxRecDepth 100000 in
set_option maxHeartbeats 1000000 in
theorem runS_any (A B : Option Addr) (n c m d : Nat) (f : Flow) (st : Int) (done : List Str) (lo lo' : Nat) (w : World) (hr : RStep w lo A n f.steps) (hok : okSteps f.steps) (hd : RStr w lo' B m done) (hm : m ≤ 1048576) (hmd : m ≤ d) :
    Calls Try.prog 121 #[.agg #[.int .i64 f.ver, .slice A n c], .agg #[.int .i64 st, .slice B m d]] w fun e w' => e = .returned (.bool (runB f st done)) ∧ Below w.heap.size w w' := by
  have hn : n ≤ 1048576 := by have := hok.1; rw [hr.1] at this; exact this
  have HO := Lib.hid hok; clear hok
  have HX0 := Lib.hid (heap_old (o := .cells #[.int .i64 st, .slice B m d] 48) (heap_new (w := w) (o := .cells #[.int .i64 f.ver, .slice A n c] 34) rfl))
  have HY0 := Lib.hid (heap_new (w := w.alloc (.cells #[.int .i64 f.ver, .slice A n c] 34)) (b := w.heap.size + 1) (o := .cells #[.int .i64 st, .slice B m d] 48) (by simp))
  have HB0 := Lib.hid (((Below.refl w.heap.size w).alloc (Nat.le_refl _) (.cells #[.int .i64 f.ver, .slice A n c] 34)).alloc (by simp) (.cells #[.int .i64 st, .slice B m d] 48))
  have HR := Lib.hid ((hr.alloc (.cells #[.int .i64 f.ver, .slice A n c] 34)).alloc (.cells #[.int .i64 st, .slice B m d] 48)); clear hr
  have HD := Lib.hid ((hd.alloc (.cells #[.int .i64 f.ver, .slice A n c] 34)).alloc (.cells #[.int .i64 st, .slice B m d] 48)); clear hd
  have HLn := Lib.hid (show f.steps.length = n from HR.out.1)
  have HLm := Lib.hid (show done.length = m from HD.out.1)
  go_enter Try.func121, Try.ntmps121
  go_wp2_with fail
  refine (flowS_any _ _ _ f _ _ HR.out HO.out).mono ?_
  rintro e w1 ⟨rfl, hb⟩
  have HX1 := Lib.hid ((hb.block _ (heap_lt HX0.out)).trans HX0.out)
  have HY1 := Lib.hid ((hb.block _ (heap_lt HY0.out)).trans HY0.out)
  have HB1 := Lib.hid (HB0.out.trans (hb.mono HB0.out.size))
  have HR1 := Lib.hid (HR.out.below hb)
  have HD1 := Lib.hid (HD.out.below hb)
  clear hb HX0 HY0 HR HD
  have a1 := (blk_cl (k := 1) HX1.out rfl).1
  have r0 := (blk_cl (k := 0) HY1.out rfl).1
  have r1 := (blk_cl (k := 1) HY1.out rfl).1
  cases hf : flowB f
  · have HE : Hid (runB f st done = false) := by show _ = _; unfold runB; rw [hf]; rfl
    clear hf
    go_wp2_with fail
    go_ret
    exact ⟨ret_b HE.out.symm, HB1.out⟩
  have HF := Lib.hid hf; clear hf
  go_wp2_with fail
  refine (l3Order_any _ _ _ _ _ _ f.steps done _ _ _ HR1.out HO.out HD1.out hm hmd).mono ?_
  rintro e w2 ⟨rfl, q, rfl⟩
  cases ho : ordB f.steps done
  · have HE : Hid (runB f st done = false) := by show _ = _; unfold runB; rw [HF.out, ho]; rfl
    clear ho
    go_wp2_with fail
    go_ret
    exact ⟨ret_b HE.out.symm, below_drewN HB1.out _⟩
  have HOR := Lib.hid ho; clear ho
  have HE := Lib.hid (show runB f st done = (if st = 0 then decide (m < n) else if st = 2 then decide (m = n) else if st = 1 then decide (m < n) && decide (leftN f.steps done m < m) else if st = 3 then decide (m < n) && decide (leftN f.steps done m = m) else false) by
    unfold runB; rw [HF.out, HOR.out, HLn.out, HLm.out]; rfl)
  have HLE := leftN_le f.steps done m
  have HLEFT := Lib.hid (fun z => l3Left_any _ _ n c m d f.steps done _ _ _ (HR1.out.drewN z) hn (HD1.out.drewN z) hm (fun j hj => ord_all HOR.out j (by rw [HLm.out]; exact hj)))
  have e1 : decide ((m : Int) < (n : Int)) = decide (m < n) := by rw [decide_eq_decide]; omega
  have e2 : ((m : Int) == (n : Int)) = decide (m = n) := by rw [Bool.eq_iff_iff, beq_iff_eq, decide_eq_true_iff]; omega
  by_cases h0 : st = 0
  · subst h0
    go_wp2_with fail
    go_ret
    exact ⟨ret_b (by rw [HE.out]; simp), below_drewN HB1.out _⟩
  have h0' : (st == 0) = false := by rw [beq_eq_false_iff_ne]; exact h0
  by_cases h2 : st = 2
  · subst h2
    go_wp2_with fail
    go_ret
    exact ⟨ret_b (by rw [HE.out]; simp [← e2]), below_drewN HB1.out _⟩
  have h2' : (st == 2) = false := by rw [beq_eq_false_iff_ne]; exact h2
  generalize leftN f.steps done m = l at *
  have e4 : ((l : Int) == (m : Int)) = decide (l = m) := by rw [Bool.eq_iff_iff, beq_iff_eq, decide_eq_true_iff]; omega
  by_cases h1 : st = 1
  · subst h1
    by_cases hmn : m < n
    · have e3 : decide ((m : Int) < (n : Int)) = true := by rw [decide_eq_true_iff]; omega
      go_wp2_with fail
      go_quiet ((go_at_call 156; exact q_same2 (HLEFT.out _)))
      go_wp2_with fail
      go_ret
      exact ⟨ret_b (by rw [HE.out]; simp [hmn]), by rw [World.drewN_drewN]; exact below_drewN HB1.out _⟩
    · have e3 : decide ((m : Int) < (n : Int)) = false := by rw [decide_eq_false_iff_not]; omega
      go_wp2_with fail
      go_quiet (fail)
      go_wp2_with fail
      go_ret
      exact ⟨ret_b (by rw [HE.out]; simp [hmn]), by rw [World.drewN_drewN]; exact below_drewN HB1.out _⟩
  have h1' : (st == 1) = false := by rw [beq_eq_false_iff_ne]; exact h1
  by_cases h3 : st = 3
  · subst h3
    by_cases hmn : m < n
    · have e3 : decide ((m : Int) < (n : Int)) = true := by rw [decide_eq_true_iff]; omega
      go_wp2_with fail
      go_quiet ((go_at_call 156; exact q_same2 (HLEFT.out _)))
      go_wp2_with fail
      go_ret
      exact ⟨ret_b (by rw [HE.out]; simp [hmn]), by rw [World.drewN_drewN]; exact below_drewN HB1.out _⟩
    · have e3 : decide ((m : Int) < (n : Int)) = false := by rw [decide_eq_false_iff_not]; omega
      go_wp2_with fail
      go_quiet (fail)
      go_wp2_with fail
      go_ret
      exact ⟨ret_b (by rw [HE.out]; simp [hmn]), by rw [World.drewN_drewN]; exact below_drewN HB1.out _⟩
  have h3' : (st == 3) = false := by rw [beq_eq_false_iff_ne]; exact h3
  go_wp2_with fail
  go_ret
  exact ⟨ret_b (by rw [HE.out, if_neg h0, if_neg h2, if_neg h1, if_neg h3]), below_drewN HB1.out _⟩
end Go.Proofs.Ytakeijgoonagcaa

/- Runs: the program's leaves. -/
namespace Go.Proofs.Ytakeijgoonagcaa
open Go.RowKit

theorem nodup_at {xs : List Str} (hn : xs.Nodup) {i j : Nat} (hi : i < xs.length) (hj : j < xs.length) (e : nth xs i = nth xs j) : i = j := by
  rw [nth_eq hi, nth_eq hj] at e
  have hp := List.pairwise_iff_getElem.1 hn
  rcases Nat.lt_trichotomy i j with h | h | h
  · exact absurd e (hp i j hi hj h)
  · exact h
  · exact absurd e.symm (hp j i hj hi h)
/-- What is ready, told by the place of its step. -/
theorem rdy_at {ss : List Step} (hn : (namesOf ss).Nodup) (d : List Str) (x : Str) : hasB (rdyL ss d) x = (hasB (namesOf ss) x && !hasB d x && haveB d (nth ss (plc ss x)).after) := by
  rw [Bool.eq_iff_iff, hasB_true]
  simp only [Bool.and_eq_true]
  constructor
  · intro h
    have hx := (rdyL_new h).2
    obtain ⟨s, hs, hr, e⟩ := rdyL_mem.1 h
    obtain ⟨h1, h2, h3⟩ := plc_ex (hasB_true.2 hx)
    obtain ⟨j, hj, rfl⟩ := nth_of_mem hs
    have : j = plc ss x := nodup_at hn (by rw [namesOf_len]; exact hj) (by rw [namesOf_len]; exact h1) (by rw [namesOf_at hj, namesOf_at h1, h3, e])
    rw [← this]
    unfold rdyB at hr
    rw [e] at hr
    simp only [Bool.and_eq_true] at hr
    exact ⟨⟨hasB_true.2 hx, hr.1⟩, hr.2⟩
  · rintro ⟨⟨h1, h2⟩, h3⟩
    obtain ⟨p1, p2, p3⟩ := plc_ex h1
    refine rdyL_mem.2 ⟨_, mem_nth p1, ?_, p3⟩
    unfold rdyB
    rw [p3, h2, h3]; rfl
theorem ordAt_rdy {ss : List Step} (hn : (namesOf ss).Nodup) (done : List Str) (i : Nat) : ordAt ss done i = hasB (rdyL ss (done.take i)) (nth done i) := (rdy_at hn _ _).symm
theorem ord_nodup {ss : List Step} {done : List Str} (h : ordB ss done = true) : ∀ k, k ≤ done.length → (done.take k).Nodup
  | 0, _ => by simp
  | k + 1, hk => by
    have h1 := allN_iff.1 h k (by omega)
    unfold ordAt at h1
    simp only [Bool.and_eq_true, Bool.not_eq_true'] at h1
    rw [take_nth (by omega), List.nodup_append]
    refine ⟨ord_nodup h k (by omega), by simp, fun a ha b hb => ?_⟩
    rw [List.mem_singleton.1 hb]
    rintro rfl
    exact hasB_false.1 h1.1.2 ha
theorem ord_len {ss : List Step} {done : List Str} (h : ordB ss done = true) : done.length ≤ ss.length := by
  have h1 := ord_nodup h done.length (Nat.le_refl _)
  rw [List.take_length] at h1
  have := nodup_le h1 (ys := namesOf ss) (fun x hx => by
    obtain ⟨j, hj, rfl⟩ := nth_of_mem hx
    exact hasB_true.1 (ord_all h j hj))
  rw [namesOf_len] at this
  exact this
theorem left_last {ss : List Step} {done : List Str} {k : Nat} : leftN ss done (k + 1) < k + 1 ↔ (nth ss (plc ss (nth done k))).undo = true := by
  have h := leftN_le ss done k
  show (if (nth ss (plc ss (nth done k))).undo = true then leftN ss done k else k + 1) < k + 1 ↔ _
  split
  · rename_i e; exact ⟨fun _ => e, fun _ => by omega⟩
  · rename_i e; exact ⟨fun h => by omega, fun h => absurd h e⟩

theorem at1_any (A : Option Addr) (n c bx : Nat) (nm x : Str) (u : Bool) (w : World) (hb : w.cell? ⟨bx, 0, none⟩ = some (.string x)) :
    Calls Try.prog 145 #[.agg #[.string nm, .slice A n c, .bool u], .pointer (some ⟨bx, 0, none⟩)] w fun e w' => e = .returned (.bool (decide (nm = x))) ∧ Below w.heap.size w w' := by
  have hb2 := fun o => (World.cell?_alloc_some w _ o (by rw [hb]; rfl)).trans hb
  have hq : (nm.toList == x.toList) = decide (nm = x) := by
    by_cases h : nm = x
    · rw [seq_t h]; simp [h]
    · rw [seq_f h]; simp [h]
  go_enter Try.func145, Try.ntmps145
  go_wp2_with fail
  go_ret
  exact ⟨rfl, (Below.refl _ _).alloc (Nat.le_refl _) _⟩

set_option maxRecDepth 100000 in
theorem indexFunc_any (A : Option Addr) (n c bx : Nat) (ss : List Step) (x : Str) (lo : Nat) (w : World) (hr : RStep w lo A n ss) (hn : n ≤ 1048576) (hb : w.cell? ⟨bx, 0, none⟩ = some (.string x)) (hbl : bx < w.heap.size) :
    Calls Try.prog 144 #[.slice A n c, .func (.func 145) #[] #[.pointer (some ⟨bx, 0, none⟩)]] w fun e w' => e = .returned (.int .i64 (idxI (namesOf ss) x)) ∧ Below w.heap.size w w' := by
  have HR := Lib.hid hr; clear hr
  go_enter Try.func144, Try.ntmps144
  go_wp2_with fail
  go_loopw [8] (fun i wr => ∃ k : Nat, k ≤ n ∧ i = .int .i64 k ∧ Below w.heap.size w wr ∧ ∀ j, j < k → (nth ss j).name ≠ x) (fun i _ => n - (intOf i).toNat)
  case atStart => exact ⟨0, Nat.zero_le _, rfl, Below.refl _ _, fa_zero⟩
  case round =>
    obtain ⟨k, hk, rfl, hbw, hp⟩ := hrel
    have HP := Lib.hid hp; clear hp
    have HBW := Lib.hid hbw; clear hbw
    by_cases hlt : k < n
    · obtain ⟨b, off, rfl, _, hc⟩ := RStep.at_ (HR.out.below HBW.out) hlt
      obtain ⟨A', n', c', ⟨c1, c2, c3⟩, _, _⟩ := hc k hlt
      clear hc
      have hbx := (HBW.out.cell (p := ⟨bx, 0, none⟩) hbl).trans hb
      by_cases he : (nth ss k).name = x
      · have HE := Lib.hid he; clear he
        go_wp2_with (go_at_call 145; refine (at1_any _ _ _ bx _ x _ _ hbx).mono ?_; rintro e w' ⟨rfl, hb'⟩; rw [decide_eq_true HE.out])
        go_ret
        exact ⟨ret_i (idxI_at (fun j hj => by rw [namesOf_at (by rw [HR.out.1]; omega)]; exact HP.out j hj) (by rw [namesOf_len, HR.out.1]; exact hlt) (by rw [namesOf_at (by rw [HR.out.1]; exact hlt)]; exact HE.out)).symm, HBW.out.trans (hb'.mono HBW.out.size)⟩
      · have HE := Lib.hid he; clear he
        go_wp2_with (go_at_call 145; refine (at1_any _ _ _ bx _ x _ _ hbx).mono ?_; rintro e w' ⟨rfl, hb'⟩; rw [decide_eq_false HE.out])
        go_roundw
        case rel => exact ⟨k + 1, by omega, by go_num, HBW.out.trans (hb'.mono HBW.out.size), fa_succ HP.out HE.out⟩
        case measure => simp [intOf]; omega
    · go_wp2_with fail
      go_ret
      exact ⟨ret_i (idxI_none (fun j hj => by rw [namesOf_len, HR.out.1] at hj; rw [namesOf_at (by rw [HR.out.1]; exact hj)]; exact HP.out j (by omega))).symm, HBW.out⟩

set_option maxRecDepth 100000 in
theorem at_any (A : Option Addr) (n c : Nat) (ver : Int) (ss : List Step) (x : Str) (lo : Nat) (w : World) (hr : RStep w lo A n ss) (hn : n ≤ 1048576) :
    Calls Try.prog 99 #[.agg #[.int .i64 ver, .slice A n c], .string x] w fun e w' => e = .returned (.int .i64 (idxI (namesOf ss) x)) ∧ Below w.heap.size w w' := by
  have HR := Lib.hid ((hr.alloc (.cells #[.int .i64 ver, .slice A n c] 34)).alloc (.cells #[.string x] 9)); clear hr
  have HX := Lib.hid (heap_new (w := w.alloc (.cells #[.int .i64 ver, .slice A n c] 34)) (b := w.heap.size + 1) (o := .cells #[.string x] 9) (by simp))
  have HB := Lib.hid (((Below.refl w.heap.size w).alloc (Nat.le_refl _) (.cells #[.int .i64 ver, .slice A n c] 34)).alloc (by simp) (.cells #[.string x] 9))
  go_enter Try.func99, Try.ntmps99
  go_wp2_with fail
  refine (indexFunc_any _ _ _ _ ss x _ _ HR.out hn (blk_cl (k := 0) HX.out rfl).1 (heap_lt HX.out)).mono ?_
  rintro e w1 ⟨rfl, hb⟩
  go_wp2_with fail
  go_ret
  exact ⟨rfl, HB.out.trans (hb.mono HB.out.size)⟩
end Go.Proofs.Ytakeijgoonagcaa

/- Runs: validity, the program's side. -/
namespace Go.Proofs.Ytakeijgoonagcaa
open Go.RowKit

def forthI (m n : Nat) : Int := if m = n then 2 else 0
/-- The state behind a failure. -/
def backI (ss : List Step) (done : List Str) : Nat → Int
  | 0 => 3
  | k + 1 => if (nth ss (plc ss (nth done k))).undo = true then 1 else 3

theorem forth_any (A B : Option Addr) (n c m d : Nat) (ver : Int) (w : World) :
    Calls Try.prog 76 #[.agg #[.int .i64 ver, .slice A n c], .slice B m d] w fun e w' => e = .returned (.int .i64 (forthI m n)) ∧ Below w.heap.size w w' := by
  by_cases h : m = n
  · have hq : ((m : Int) == (n : Int)) = true := by rw [beq_iff_eq]; omega
    have HE := Lib.hid (show forthI m n = 2 by unfold forthI; rw [if_pos h])
    clear h
    go_enter Try.func76, Try.ntmps76
    go_wp2_with fail
    go_ret
    exact ⟨ret_i HE.out.symm, (Below.refl _ _).alloc (Nat.le_refl _) _⟩
  · have hq : ((m : Int) == (n : Int)) = false := by rw [beq_eq_false_iff_ne]; omega
    have HE := Lib.hid (show forthI m n = 0 by unfold forthI; rw [if_neg h])
    clear h
    go_enter Try.func76, Try.ntmps76
    go_wp2_with fail
    go_ret
    exact ⟨ret_i HE.out.symm, (Below.refl _ _).alloc (Nat.le_refl _) _⟩

set_option maxRecDepth 100000 in
theorem back_any (A B : Option Addr) (n c m d : Nat) (ver : Int) (ss : List Step) (done : List Str) (lo lo' : Nat) (w : World) (hr : RStep w lo A n ss) (hn : n ≤ 1048576) (hd : RStr w lo' B m done) (hm : m ≤ 1048576) (hall : ∀ j, j < m → hasB (namesOf ss) (nth done j) = true) :
    Calls Try.prog 77 #[.agg #[.int .i64 ver, .slice A n c], .slice B m d] w fun e w' => e = .returned (.int .i64 (backI ss done m)) ∧ Below w.heap.size w w' := by
  have HR := Lib.hid (hr.alloc (.cells #[.int .i64 ver, .slice A n c] 34)); clear hr
  have HD := Lib.hid (hd.alloc (.cells #[.int .i64 ver, .slice A n c] 34)); clear hd
  have HX := Lib.hid (heap_new (w := w) (o := .cells #[.int .i64 ver, .slice A n c] 34) rfl)
  have HB := Lib.hid ((Below.refl w.heap.size w).alloc (Nat.le_refl _) (.cells #[.int .i64 ver, .slice A n c] 34))
  go_enter Try.func77, Try.ntmps77
  go_wp2_with fail
  generalize w.alloc (.cells #[.int .i64 ver, .slice A n c] 34) = wk at *
  have X0 : ∀ x : Bl wk, x.wd.cell? ⟨w.heap.size, 0, none⟩ = some (.int .i64 ver) := fun x => (blk_cl (k := 0) ((x.below.block _ (heap_lt HX.out)).trans HX.out) rfl).1
  have X1 : ∀ x : Bl wk, x.wd.cell? ⟨w.heap.size, 1, none⟩ = some (.slice A n c) := fun x => (blk_cl (k := 1) ((x.below.block _ (heap_lt HX.out)).trans HX.out) rfl).1
  cases m with
  | zero =>
    refine region_bl (by kernel_rfl) (by kernel_rfl) ?_
    repeat (go_big_quiet_step (fail))
    refine wpQuiet_nil ?_
    intro _ hw'
    obtain ⟨x, rfl⟩ := hw'
    have HB2 := Lib.hid (HB.out.trans (x.below.mono HB.out.size))
    go_wp2_with fail
    go_ret
    exact ⟨rfl, HB2.out⟩
  | succ k =>
    have HA := Lib.hid hall; clear hall
    have hlt : k < k + 1 := Nat.lt_succ_self k
    obtain ⟨b, off, rfl, ⟨_, hbl⟩, hc⟩ := RStr.at_ HD.out hlt
    have x1' := (hc k hlt).1
    have x1 : ∀ x : Bl wk, x.wd.cell? ⟨b, off + k, none⟩ = some (.string (nth done k)) := fun x => (x.below.cell (p := ⟨b, off + k, none⟩) hbl).trans x1'
    clear hc x1'
    obtain ⟨hpl, hidx, _⟩ := plc_ex (HA.out k hlt)
    have HLF := Lib.hid (show backI ss done (k + 1) = if (nth ss (plc ss (nth done k))).undo = true then 1 else 3 from rfl)
    have HAT := Lib.hid (fun x : Bl wk => at_any A n c ver ss (nth done k) _ x.wd (HR.out.below x.below) hn)
    rw [hidx] at HAT
    generalize plc ss (nth done k) = p at *
    have hpn : p < n := by rw [← HR.out.1]; exact hpl
    obtain ⟨b1, off1, rfl, ⟨_, hbr⟩, hc⟩ := RStep.at_ HR.out hpn
    obtain ⟨A', n', c', ⟨y1', y2', y3'⟩, _, _⟩ := hc p hpn
    have y3 : ∀ x : Bl wk, x.wd.cell? ⟨b1, off1 + p * 3 + 2, none⟩ = some (.bool (nth ss p).undo) := fun x => (x.below.cell (p := ⟨b1, off1 + p * 3 + 2, none⟩) hbr).trans y3'
    clear hc hpl y1' y2' y3'
    have hk0 : decide ((0 : Int) < ((k + 1 : Nat) : Int)) = true := by rw [decide_eq_true_iff]; omega
    have hk1 : decide ((0 : Int) < (k : Int) + 1) = true := by rw [decide_eq_true_iff]; omega
    cases hu : (nth ss p).undo
    all_goals
      rw [hu] at y3 HLF
      clear hu
      refine region_bl (by kernel_rfl) (by kernel_rfl) ?_
      repeat (go_big_quiet_step ((go_at_call 99; exact q_bl (HAT.out _))))
      refine wpQuiet_nil ?_
      intro _ hw'
      obtain ⟨x, rfl⟩ := hw'
      have HB2 := Lib.hid (HB.out.trans (x.below.mono HB.out.size))
      clear X0 X1 x1 y3
      go_wp2_with fail
      go_ret
      exact ⟨ret_i (by rw [HLF.out]; simp), HB2.out⟩
end Go.Proofs.Ytakeijgoonagcaa

/- Runs: RunValid of the program. -/
namespace Go.Proofs.Ytakeijgoonagcaa
open Go.RowKit

theorem back_left {ss : List Step} {done : List Str} {m : Nat} : (backI ss done m = 1 ↔ leftN ss done m < m) ∧ (backI ss done m = 3 ↔ leftN ss done m = m) := by
  cases m with
  | zero => exact ⟨⟨fun h => absurd h (by show ¬ ((3 : Int) = 1); omega), fun h => absurd h (Nat.not_lt_zero _)⟩, ⟨fun _ => rfl, fun _ => rfl⟩⟩
  | succ k =>
    have h1 := left_last (ss := ss) (done := done) (k := k)
    have h2 := leftN_le ss done (k + 1)
    show ((if (nth ss (plc ss (nth done k))).undo = true then (1 : Int) else 3) = 1 ↔ _) ∧ ((if (nth ss (plc ss (nth done k))).undo = true then (1 : Int) else 3) = 3 ↔ _)
    cases hu : (nth ss (plc ss (nth done k))).undo
    · rw [hu] at h1
      simp at h1 ⊢
      omega
    · rw [hu] at h1
      simp at h1 ⊢
      omega

set_option maxRecDepth 100000 in
set_option maxHeartbeats 2000000 in
theorem runI_any (A B : Option Addr) (n c m d : Nat) (f : Flow) (st : Int) (done : List Str) (lo lo' : Nat) (w : World) (hr : RStep w lo A n f.steps) (hok : okSteps f.steps) (hd : RStr w lo' B m done) (hm : m ≤ 1048576) (hmd : m ≤ d) :
    Calls Try.prog 73 #[.agg #[.int .i64 f.ver, .slice A n c], .agg #[.int .i64 st, .slice B m d]] w fun e w' => e = .returned (.bool (runB f st done)) ∧ Below w.heap.size w w' := by
  have hn : n ≤ 1048576 := by have := hok.1; rw [hr.1] at this; exact this
  have HO := Lib.hid hok; clear hok
  have HX0 := Lib.hid (heap_old (o := .cells #[.int .i64 st, .slice B m d] 48) (heap_new (w := w) (o := .cells #[.int .i64 f.ver, .slice A n c] 34) rfl))
  have HY0 := Lib.hid (heap_new (w := w.alloc (.cells #[.int .i64 f.ver, .slice A n c] 34)) (b := w.heap.size + 1) (o := .cells #[.int .i64 st, .slice B m d] 48) (by simp))
  have HB0 := Lib.hid (((Below.refl w.heap.size w).alloc (Nat.le_refl _) (.cells #[.int .i64 f.ver, .slice A n c] 34)).alloc (by simp) (.cells #[.int .i64 st, .slice B m d] 48))
  have HR := Lib.hid ((hr.alloc (.cells #[.int .i64 f.ver, .slice A n c] 34)).alloc (.cells #[.int .i64 st, .slice B m d] 48)); clear hr
  have HD := Lib.hid ((hd.alloc (.cells #[.int .i64 f.ver, .slice A n c] 34)).alloc (.cells #[.int .i64 st, .slice B m d] 48)); clear hd
  have HLn := Lib.hid (show f.steps.length = n from HR.out.1)
  have HLm := Lib.hid (show done.length = m from HD.out.1)
  go_enter Try.func73, Try.ntmps73
  go_wp2_with fail
  refine (flowI_any _ _ _ f _ _ HR.out HO.out).mono ?_
  rintro e w1 ⟨rfl, hb⟩
  have HX1 := Lib.hid ((hb.block _ (heap_lt HX0.out)).trans HX0.out)
  have HY1 := Lib.hid ((hb.block _ (heap_lt HY0.out)).trans HY0.out)
  have HB1 := Lib.hid (HB0.out.trans (hb.mono HB0.out.size))
  have HR1 := Lib.hid (HR.out.below hb)
  have HD1 := Lib.hid (HD.out.below hb)
  clear hb HX0 HY0 HR HD HB0
  have r1 := (blk_cl (k := 1) HY1.out rfl).1
  cases hf : flowB f
  · have HE : Hid (runB f st done = false) := by show _ = _; unfold runB; rw [hf]; rfl
    clear hf
    go_wp2_with fail
    go_ret
    exact ⟨ret_b HE.out.symm, HB1.out⟩
  have HF := Lib.hid hf
  have HND := Lib.hid (flow_nodup hf); clear hf
  go_wp2_with fail
  clear r1
  go_loopw [13] (fun i wr => ∃ k : Nat, k ≤ m ∧ i = .int .i64 k ∧ Below w1.heap.size w1 wr ∧ ∀ j, j < k → ordAt f.steps done j = true) (fun i _ => m - (intOf i).toNat)
  case atStart => exact ⟨0, Nat.zero_le _, rfl, Below.refl _ _, fa_zero⟩
  case round =>
    obtain ⟨wo, rfl⟩ : ∃ wo : World, wo = wr := ⟨_, rfl⟩
    obtain ⟨k, hk, rfl, hbw0, hp⟩ := hrel
    have HP := Lib.hid hp; clear hp
    have HX := Lib.hid ((hbw0.block _ (heap_lt HX1.out)).trans HX1.out)
    have HY := Lib.hid ((hbw0.block _ (heap_lt HY1.out)).trans HY1.out)
    have HB := Lib.hid (HB1.out.trans (hbw0.mono HB1.out.size))
    have HR := Lib.hid (HR1.out.below hbw0)
    have HD := Lib.hid (HD1.out.below hbw0)
    have HBW := Lib.hid hbw0; clear hbw0
    by_cases hlt : k < m
    · obtain ⟨b, off, rfl, _, hc⟩ := RStr.at_ HD.out hlt
      have x1 := (hc k hlt).1
      clear hc
      have hkl : k < done.length := by rw [HLm.out]; exact hlt
      have HSB : Hid (∀ w', Below wo.heap.size wo w' → (w'.cell? ⟨w.heap.size, 0, none⟩ = some (.int .i64 f.ver) ∧ w'.cell? ⟨w.heap.size, 1, none⟩ = some (.slice A n c) ∧ w'.cell? ⟨w.heap.size + 1, 1, none⟩ = some (.slice (some ⟨b, off, none⟩) m d)) ∧ Below wo.heap.size wo w') := fun w' h => by
        have e1 := (h.block _ (heap_lt HX.out)).trans HX.out
        have e2 := (h.block _ (heap_lt HY.out)).trans HY.out
        exact ⟨⟨(blk_cl (k := 0) e1 rfl).1, (blk_cl (k := 1) e1 rfl).1, (blk_cl (k := 1) e2 rfl).1⟩, h⟩
      have s1 : ¬ ((k : Int) < 0) := by omega
      have s2 : ¬ ((d : Int) < (k : Int)) := by omega
      have s3 : (k : Int) ≤ (d : Int) := by omega
      have s4 : (0 : Int) ≤ (k : Int) := by omega
      cases hh : hasB (rdyL f.steps (done.take k)) (nth done k)
      · have HE : Hid (runB f st done = false) := by
          show _ = _
          unfold runB ordB
          rw [allN_false hkl (by rw [ordAt_rdy HND.out]; exact hh)]
          simp
        have HH := Lib.hid hh; clear hh
        go_wp2_with fail
        go_region_held3 (fun w' => (w'.cell? ⟨w.heap.size, 0, none⟩ = some (.int .i64 f.ver) ∧ w'.cell? ⟨w.heap.size, 1, none⟩ = some (.slice A n c) ∧ w'.cell? ⟨w.heap.size + 1, 1, none⟩ = some (.slice (some ⟨b, off, none⟩) m d)) ∧ Below wo.heap.size wo w')
          (first | exact HSB.out _ hbw | exact HSB.out _ (Below.refl _ _).drew | fail "keep")
          (first
            | (go_at_call 136; refine (ready_any _ _ _ _ _ _ f.ver f.steps (done.take k) _ _ _ (HR.out.below (Below.refl _ _).drew) HO.out ((HD.out.below (Below.refl _ _).drew).take hk) (by omega)).mono ?_; rintro e w6 ⟨A6, n6, c6, rfl, h6, hb6⟩; have hbw : Below wo.heap.size wo w6 := (Below.refl wo.heap.size wo).drew.trans hb6)
            | (go_at_call 135; refine (contains_any _ _ _ (rdyL f.steps (done.take k)) (nth done k) _ _ h6 (by have h8 := h6.1; have h9 := rdyL_len f.steps (done.take k); rw [HLn.out] at h9; omega)).mono ?_; rintro e w7 ⟨rfl, rfl⟩; rw [HH.out])
            | fail "no arm")
        go_wp2_with fail
        go_ret
        exact ⟨ret_b HE.out.symm, HB.out.trans (hbw.mono HB.out.size)⟩
      · have HH := Lib.hid hh; clear hh
        go_wp2_with fail
        go_region_held3 (fun w' => (w'.cell? ⟨w.heap.size, 0, none⟩ = some (.int .i64 f.ver) ∧ w'.cell? ⟨w.heap.size, 1, none⟩ = some (.slice A n c) ∧ w'.cell? ⟨w.heap.size + 1, 1, none⟩ = some (.slice (some ⟨b, off, none⟩) m d)) ∧ Below wo.heap.size wo w')
          (first | exact HSB.out _ hbw | exact HSB.out _ (Below.refl _ _).drew | fail "keep")
          (first
            | (go_at_call 136; refine (ready_any _ _ _ _ _ _ f.ver f.steps (done.take k) _ _ _ (HR.out.below (Below.refl _ _).drew) HO.out ((HD.out.below (Below.refl _ _).drew).take hk) (by omega)).mono ?_; rintro e w6 ⟨A6, n6, c6, rfl, h6, hb6⟩; have hbw : Below wo.heap.size wo w6 := (Below.refl wo.heap.size wo).drew.trans hb6)
            | (go_at_call 135; refine (contains_any _ _ _ (rdyL f.steps (done.take k)) (nth done k) _ _ h6 (by have h8 := h6.1; have h9 := rdyL_len f.steps (done.take k); rw [HLn.out] at h9; omega)).mono ?_; rintro e w7 ⟨rfl, rfl⟩; rw [HH.out])
            | fail "no arm")
        go_wp2_with fail
        go_roundw
        case rel => exact ⟨k + 1, by omega, by go_num, HBW.out.trans (hbw.mono HBW.out.size), fa_succ HP.out (by rw [ordAt_rdy HND.out]; exact HH.out)⟩
        case measure => simp [intOf]; omega
    · obtain rfl : k = m := by omega
      have ho : ordB f.steps done = true := allN_true (fun j hj => HP.out j (by rw [HLm.out] at hj; exact hj))
      have HOR := Lib.hid ho; clear ho
      have hle : k ≤ n := by rw [← HLm.out, ← HLn.out]; exact ord_len HOR.out
      have HE := Lib.hid (show runB f st done = (if st = 0 then decide (k < n) else if st = 2 then decide (k = n) else if st = 1 then decide (k < n) && decide (leftN f.steps done k < k) else if st = 3 then decide (k < n) && decide (leftN f.steps done k = k) else false) by
        unfold runB; rw [HF.out, HOR.out, HLn.out, HLm.out]; rfl)
      have HFO := Lib.hid (fun x : Bl wo => forth_any A B n c k d f.ver x.wd)
      have HBA := Lib.hid (fun x : Bl wo => back_any A B n c k d f.ver f.steps done _ _ x.wd (HR.out.below x.below) hn (HD.out.below x.below) hm (fun j hj => ord_all HOR.out j (by rw [HLm.out]; exact hj)))
      obtain ⟨hL1, hL2⟩ := back_left (ss := f.steps) (done := done) (m := k)
      have HL1 := Lib.hid hL1; clear hL1
      have HL2 := Lib.hid hL2; clear hL2
      generalize leftN f.steps done k = l at *
      generalize backI f.steps done k = z at *
      have X0 : ∀ x : Bl wo, x.wd.cell? ⟨w.heap.size, 0, none⟩ = some (.int .i64 f.ver) := fun x => (blk_cl (k := 0) ((x.below.block _ (heap_lt HX.out)).trans HX.out) rfl).1
      have X1 : ∀ x : Bl wo, x.wd.cell? ⟨w.heap.size, 1, none⟩ = some (.slice A n c) := fun x => (blk_cl (k := 1) ((x.below.block _ (heap_lt HX.out)).trans HX.out) rfl).1
      have Y0 : ∀ x : Bl wo, x.wd.cell? ⟨w.heap.size + 1, 0, none⟩ = some (.int .i64 st) := fun x => (blk_cl (k := 0) ((x.below.block _ (heap_lt HY.out)).trans HY.out) rfl).1
      have Y1 : ∀ x : Bl wo, x.wd.cell? ⟨w.heap.size + 1, 1, none⟩ = some (.slice B k d) := fun x => (blk_cl (k := 1) ((x.below.block _ (heap_lt HY.out)).trans HY.out) rfl).1
      have y0 := (blk_cl (k := 0) HY.out rfl).1
      have bl : ∀ x : Bl wo, Below w.heap.size w x.wd := fun x => HB.out.trans (x.below.mono HB.out.size)
      have BL := Lib.hid bl; clear bl
      by_cases h0 : st = 0
      · subst h0
        go_wp2_with fail
        refine region_bl (by kernel_rfl) (by kernel_rfl) ?_
        repeat (go_big_quiet_step ((go_at_call 76; exact q_bl (HFO.out _))))
        refine wpQuiet_nil ?_
        intro _ hw'
        obtain ⟨x, rfl⟩ := hw'
        go_wp2_with fail
        go_ret
        refine ⟨ret_b ?_, BL.out x⟩
        rw [HE.out, if_pos trivial]
        unfold forthI
        by_cases h : k = n
        · simp [h]
        · rw [if_neg h]; simp; omega
      have h0' : (st == 0) = false := by rw [beq_eq_false_iff_ne]; exact h0
      by_cases h2 : st = 2
      · subst h2
        go_wp2_with fail
        refine region_bl (by kernel_rfl) (by kernel_rfl) ?_
        repeat (go_big_quiet_step ((go_at_call 76; exact q_bl (HFO.out _))))
        refine wpQuiet_nil ?_
        intro _ hw'
        obtain ⟨x, rfl⟩ := hw'
        go_wp2_with fail
        go_ret
        refine ⟨ret_b ?_, BL.out x⟩
        rw [HE.out, if_neg (by decide), if_pos trivial]
        unfold forthI
        by_cases h : k = n
        · simp [h]
        · rw [if_neg h]; simp [h]
      have h2' : (st == 2) = false := by rw [beq_eq_false_iff_ne]; exact h2
      by_cases h1 : st = 1
      · subst h1
        by_cases hmn : k < n
        · have e3 : decide ((k : Int) < (n : Int)) = true := by rw [decide_eq_true_iff]; omega
          go_wp2_with fail
          refine region_bl (by kernel_rfl) (by kernel_rfl) ?_
          repeat (go_big_quiet_step ((go_at_call 77; exact q_bl (HBA.out _))))
          refine wpQuiet_nil ?_
          intro _ hw'
          obtain ⟨x, rfl⟩ := hw'
          go_wp2_with fail
          go_ret
          refine ⟨ret_b ?_, BL.out x⟩
          rw [HE.out, if_neg (by decide), if_neg (by decide), if_pos trivial, decide_eq_true hmn, Bool.true_and, Bool.eq_iff_iff, decide_eq_true_iff, beq_iff_eq, ← HL1.out]
          exact eq_comm
        · have e3 : decide ((k : Int) < (n : Int)) = false := by rw [decide_eq_false_iff_not]; omega
          go_wp2_with fail
          refine region_bl (by kernel_rfl) (by kernel_rfl) ?_
          repeat (go_big_quiet_step (fail))
          refine wpQuiet_nil ?_
          intro _ hw'
          obtain ⟨x, rfl⟩ := hw'
          go_wp2_with fail
          go_ret
          exact ⟨ret_b (by rw [HE.out]; simp [hmn]), BL.out x⟩
      have h1' : (st == 1) = false := by rw [beq_eq_false_iff_ne]; exact h1
      by_cases h3 : st = 3
      · subst h3
        by_cases hmn : k < n
        · have e3 : decide ((k : Int) < (n : Int)) = true := by rw [decide_eq_true_iff]; omega
          go_wp2_with fail
          refine region_bl (by kernel_rfl) (by kernel_rfl) ?_
          repeat (go_big_quiet_step ((go_at_call 77; exact q_bl (HBA.out _))))
          refine wpQuiet_nil ?_
          intro _ hw'
          obtain ⟨x, rfl⟩ := hw'
          go_wp2_with fail
          go_ret
          refine ⟨ret_b ?_, BL.out x⟩
          rw [HE.out, if_neg (by decide), if_neg (by decide), if_neg (by decide), if_pos trivial, decide_eq_true hmn, Bool.true_and, Bool.eq_iff_iff, decide_eq_true_iff, beq_iff_eq, ← HL2.out]
          exact eq_comm
        · have e3 : decide ((k : Int) < (n : Int)) = false := by rw [decide_eq_false_iff_not]; omega
          go_wp2_with fail
          refine region_bl (by kernel_rfl) (by kernel_rfl) ?_
          repeat (go_big_quiet_step (fail))
          refine wpQuiet_nil ?_
          intro _ hw'
          obtain ⟨x, rfl⟩ := hw'
          go_wp2_with fail
          go_ret
          exact ⟨ret_b (by rw [HE.out]; simp [hmn]), BL.out x⟩
      have h3' : (st == 3) = false := by rw [beq_eq_false_iff_ne]; exact h3
      go_wp2_with fail
      go_ret
      exact ⟨ret_b (by rw [HE.out, if_neg h0, if_neg h2, if_neg h1, if_neg h3]), HB.out⟩
end Go.Proofs.Ytakeijgoonagcaa
