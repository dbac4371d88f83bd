/- Contracts of functions and plain lemmas, joined. No condition but those that each states. -/
import Derived.Shelf.SlSorted.Search
import Derived.Test.YtakeijgoonagcaaShelf
import Derived.Shelf.SlSortCmp.SmallK
import Derived.Deep.RegionHeld3
import Derived.Test.YtakeijgoonagcaaZH
import Derived.Test.YtakeijgoonagcaaZF
import Derived.Test.YtakeijgoonagcaaZC
import Derived.Test.YtakeijgoonagcaaZG

/- A case is started. No program in sight. -/
namespace Go.Proofs.Ytakeijgoonagcaa

def newC (nm : Str) : Case := ⟨nm, 0, []⟩
/-- The cases with a new one at its place. -/
def insL (cs : List Case) (nm : Str) : List Case := cs.filter (fun c => strLt c.name nm) ++ newC nm :: cs.filter (fun c => strLt nm c.name)
def insD (cs : List Case) (nm : Str) (k : Nat) : Bool := (cs.take k).any fun c => strLt nm c.name
def insTo (cs : List Case) (nm : Str) (k : Nat) : List Case := (cs.take k).filter (fun c => strLt c.name nm) ++ ((if insD cs nm k = true then [newC nm] else []) ++ (cs.take k).filter (fun c => strLt nm c.name))
def psB (f : Flow) (cs : List Case) (nm : Str) : Bool := poolB f cs && (!hasB (caseNames cs) nm && (nameB nm && decide (cs.length ≤ 7)))
def psL (f : Flow) (cs : List Case) (nm : Str) : List Case := if psB f cs nm = true then insL cs nm else []
theorem psL_no {f : Flow} {cs : List Case} {nm : Str} (h : psB f cs nm = false) : psL f cs nm = [] := by unfold psL; rw [if_neg (by rw [h]; simp)]
theorem psL_yes {f : Flow} {cs : List Case} {nm : Str} (h : psB f cs nm = true) : psL f cs nm = insL cs nm := if_pos h

theorem ne_names {cs : List Case} {nm : Str} (h : hasB (caseNames cs) nm = false) : ∀ c ∈ cs, c.name ≠ nm := fun c hc e => by
  have := hasB_false.1 h
  exact this (List.mem_map.2 ⟨c, hc, e⟩)
theorem gt_of {c : Case} {nm : Str} (h : c.name ≠ nm) : strLt nm c.name = !strLt c.name nm := by
  rcases strLt_tri c.name nm with h1 | h1 | h1
  · rw [h1, strLt_asymm h1]; rfl
  · exact absurd h1 h
  · rw [h1, strLt_asymm h1]; rfl
theorem ins_mem {cs : List Case} {nm : Str} (hn : ∀ c ∈ cs, c.name ≠ nm) {c : Case} : c ∈ insL cs nm ↔ c = newC nm ∨ c ∈ cs := by
  unfold insL
  rw [List.mem_append, List.mem_cons, List.mem_filter, List.mem_filter]
  constructor
  · rintro (⟨h, _⟩ | h | ⟨h, _⟩)
    · exact .inr h
    · exact .inl h
    · exact .inr h
  · rintro (h | h)
    · exact .inr (.inl h)
    · cases h1 : strLt c.name nm
      · exact .inr (.inr ⟨h, by rw [gt_of (hn c h), h1]; rfl⟩)
      · exact .inl ⟨h, rfl⟩
theorem ins_len {cs : List Case} {nm : Str} (hn : ∀ c ∈ cs, c.name ≠ nm) : (insL cs nm).length = cs.length + 1 := by
  unfold insL
  rw [List.length_append, List.length_cons]
  have : (cs.filter fun c => strLt c.name nm).length + (cs.filter fun c => strLt nm c.name).length = cs.length := by
    induction cs with
    | nil => rfl
    | cons c cs ih =>
      have h1 := ih (fun x hx => hn x (List.mem_cons_of_mem _ hx))
      have h2 := gt_of (hn c (List.mem_cons_self ..))
      rw [List.filter_cons, List.filter_cons, h2, List.length_cons]
      cases strLt c.name nm <;> simp <;> omega
  omega
theorem ins_sorted {cs : List Case} {nm : Str} (hp : cs.Pairwise caseLt) : (insL cs nm).Pairwise caseLt := by
  unfold insL
  rw [List.pairwise_append]
  refine ⟨hp.sublist List.filter_sublist, List.pairwise_cons.2 ⟨fun c hc => (List.mem_filter.1 hc).2, hp.sublist List.filter_sublist⟩, fun a ha b hb => ?_⟩
  have h1 : strLt a.name nm = true := (List.mem_filter.1 ha).2
  rcases List.mem_cons.1 hb with rfl | hb
  · exact h1
  · exact strLt_trans h1 (List.mem_filter.1 hb).2
theorem ins_split {cs : List Case} {nm : Str} (hp : cs.Pairwise caseLt) (hn : ∀ c ∈ cs, c.name ≠ nm) : cs.filter (fun c => strLt c.name nm) ++ cs.filter (fun c => strLt nm c.name) = cs := by
  induction cs with
  | nil => rfl
  | cons c cs ih =>
    obtain ⟨h1, h2⟩ := List.pairwise_cons.1 hp
    have h3 := gt_of (hn c (List.mem_cons_self ..))
    cases h4 : strLt c.name nm
    · rw [h4] at h3
      have e1 : (c :: cs).filter (fun c => strLt c.name nm) = [] := List.filter_eq_nil_iff.2 fun x hx => by
        rcases List.mem_cons.1 hx with rfl | hx
        · rw [h4]; simp
        · have : strLt nm x.name = true := strLt_trans h3 (h1 x hx)
          rw [strLt_asymm this]; simp
      have e2 : (c :: cs).filter (fun c => strLt nm c.name) = c :: cs := List.filter_eq_self.2 fun x hx => by
        rcases List.mem_cons.1 hx with rfl | hx
        · exact h3
        · exact strLt_trans h3 (h1 x hx)
      rw [e1, e2]; rfl
    · rw [List.filter_cons, List.filter_cons, h3, h4]
      simp only [if_true, Bool.not_true, Bool.false_eq_true, if_false, List.cons_append]
      rw [ih h2 (fun x hx => hn x (List.mem_cons_of_mem _ hx))]
theorem ins_rest {cs : List Case} {nm : Str} (hp : cs.Pairwise caseLt) (hn : ∀ c ∈ cs, c.name ≠ nm) : (insL cs nm).filter (fun c => !decide (c.name = nm)) = cs := by
  unfold insL
  rw [List.filter_append, List.filter_cons]
  have e0 : (!decide ((newC nm).name = nm)) = false := by simp [newC]
  have e1 : (cs.filter fun c => strLt c.name nm).filter (fun c => !decide (c.name = nm)) = cs.filter fun c => strLt c.name nm := List.filter_eq_self.2 fun x hx => by
    have := hn x (List.mem_filter.1 hx).1
    simp [this]
  have e2 : (cs.filter fun c => strLt nm c.name).filter (fun c => !decide (c.name = nm)) = cs.filter fun c => strLt nm c.name := List.filter_eq_self.2 fun x hx => by
    have := hn x (List.mem_filter.1 hx).1
    simp [this]
  rw [e0, e1, e2]
  simp only [Bool.false_eq_true, if_false]
  exact ins_split hp hn
theorem ins_perm {cs : List Case} {nm : Str} (hp : cs.Pairwise caseLt) (hn : ∀ c ∈ cs, c.name ≠ nm) : (cs ++ [newC nm]).Perm (insL cs nm) := by
  have h := ins_split hp hn
  unfold insL
  refine List.Perm.trans ?_ List.perm_middle.symm
  rw [h]
  exact List.perm_append_singleton _ _
/-- A list in order is told by its members. -/
theorem sorted_unique : ∀ {xs ys : List Case}, xs.Perm ys → xs.Pairwise caseLt → ys.Pairwise caseLt → xs = ys
  | [], ys, h, _, _ => by rw [List.nil_perm] at h; exact h.symm
  | x :: xs, [], h, _, _ => by rw [List.perm_nil] at h; exact h
  | x :: xs, y :: ys, h, hx, hy => by
    obtain ⟨x1, x2⟩ := List.pairwise_cons.1 hx
    obtain ⟨y1, y2⟩ := List.pairwise_cons.1 hy
    have e : x = y := by
      have m1 : x ∈ y :: ys := h.subset (List.mem_cons_self ..)
      have m2 : y ∈ x :: xs := h.symm.subset (List.mem_cons_self ..)
      rcases List.mem_cons.1 m1 with e | m1
      · exact e
      · rcases List.mem_cons.1 m2 with e | m2
        · exact e.symm
        · have a := x1 y m2
          have b := y1 x m1
          unfold caseLt at a b
          rw [strLt_asymm a] at b
          cases b
    subst e
    rw [sorted_unique (List.Perm.cons_inv h) x2 y2]
theorem ins_pool {f : Flow} {cs : List Case} {nm : Str} (h : poolB f cs = true) (hh : hasB (caseNames cs) nm = false) : poolB f (insL cs nm) = (nameB nm && decide (cs.length ≤ 7)) := by
  obtain ⟨h1, h2, h3, h4⟩ := poolB_iff.1 h
  have hn := ne_names hh
  rw [Bool.eq_iff_iff, poolB_iff, Bool.and_eq_true, decide_eq_true_iff, ins_len hn]
  constructor
  · rintro ⟨a, _, _, b⟩
    exact ⟨(a (newC nm) ((ins_mem hn).2 (.inl rfl))).1, by omega⟩
  · rintro ⟨a, b⟩
    refine ⟨fun c hc => ?_, ins_sorted h2, h3, by omega⟩
    rcases (ins_mem hn).1 hc with rfl | hc
    · refine ⟨a, ?_⟩
      have hf := (flowB_iff.1 h3).2.2.1
      unfold newC runB
      simp [h3, ordB, allN]
      omega
    · exact h1 c hc
theorem insD_zero (cs : List Case) (nm : Str) : insD cs nm 0 = false := rfl
theorem insD_succ {cs : List Case} {nm : Str} {k : Nat} (hk : k < cs.length) : insD cs nm (k + 1) = (insD cs nm k || strLt nm (nth cs k).name) := by
  unfold insD; rw [take_nth hk, List.any_append]; simp
theorem insTo_zero (cs : List Case) (nm : Str) : insTo cs nm 0 = [] := rfl
theorem insTo_succ {cs : List Case} {nm : Str} {k : Nat} (hp : cs.Pairwise caseLt) (hn : ∀ c ∈ cs, c.name ≠ nm) (hk : k < cs.length) :
    insTo cs nm (k + 1) = if insD cs nm k = false ∧ strLt nm (nth cs k).name = true then (insTo cs nm k ++ [newC nm]) ++ [nth cs k] else insTo cs nm k ++ [nth cs k] := by
  have hg := gt_of (hn _ (mem_nth hk))
  have hd := insD_succ (nm := nm) hk
  have hpt : ∀ j, j < k → strLt (nth cs j).name (nth cs k).name = true := fun j hj => by
    have := (List.pairwise_iff_getElem.1 hp) j k (by omega) hk hj
    rw [← nth_eq, ← nth_eq] at this
    exact this
  have hno : insD cs nm k = false → (cs.take k).filter (fun c => strLt nm c.name) = [] := fun h => List.filter_eq_nil_iff.2 fun x hx he => by
    unfold insD at h
    rw [List.any_eq_false] at h
    exact h x hx he
  unfold insTo
  rw [hd, take_nth hk, List.filter_append, List.filter_append]
  cases h1 : strLt nm (nth cs k).name
  · have h2 : strLt (nth cs k).name nm = true := by rw [h1] at hg; simpa using hg
    have h3 : insD cs nm k = false := by
      unfold insD
      rw [List.any_eq_false]
      intro x hx hx2
      obtain ⟨j, hj, rfl⟩ := nth_of_mem hx
      rw [List.length_take] at hj
      have e4 : nth (cs.take k) j = nth cs j := by rw [nth_eq (by rw [List.length_take]; exact hj), nth_eq (by omega), List.getElem_take]
      rw [e4] at hx2
      have := strLt_trans hx2 (strLt_trans (hpt j (by omega)) h2)
      rw [strLt_irr] at this
      cases this
    rw [hno h3, h3]
    simp [h1, h2]
  · have h2 : strLt (nth cs k).name nm = false := by rw [h1] at hg; simpa using hg
    cases h3 : insD cs nm k
    · rw [hno h3]
      simp [h1, h2]
    · simp [h1, h2]
theorem insTo_end {cs : List Case} {nm : Str} {k : Nat} (hk : cs.length ≤ k) : insL cs nm = if insD cs nm k = true then insTo cs nm k else insTo cs nm k ++ [newC nm] := by
  have hno : insD cs nm k = false → (cs.take k).filter (fun c => strLt nm c.name) = [] := fun h => List.filter_eq_nil_iff.2 fun x hx he => by
    unfold insD at h
    rw [List.any_eq_false] at h
    exact h x hx he
  unfold insTo insL
  cases h : insD cs nm k
  · rw [if_neg (by simp), hno h]
    rw [List.take_of_length_le hk] at *
    rw [hno h]
    simp
  · rw [if_pos rfl, List.take_of_length_le hk]
    simp
theorem insTo_len (cs : List Case) (nm : Str) (k : Nat) : (insTo cs nm k).length ≤ 2 * k + 1 := by
  unfold insTo
  rw [List.length_append, List.length_append]
  have h1 := List.length_filter_le (fun c : Case => strLt c.name nm) (cs.take k)
  have h2 := List.length_filter_le (fun c : Case => strLt nm c.name) (cs.take k)
  have h3 := List.length_take_le k cs
  split <;> simp <;> omega
theorem ps_parts {f : Flow} {cs : List Case} {nm : Str} (h : psB f cs nm = true) : poolB f cs = true ∧ hasB (caseNames cs) nm = false ∧ nameB nm = true ∧ cs.length ≤ 7 := by
  unfold psB at h
  simp only [Bool.and_eq_true, Bool.not_eq_true', decide_eq_true_eq] at h
  exact h
theorem ps_pool {f : Flow} {cs : List Case} {nm : Str} (h : psB f cs nm = true) : poolB f (psL f cs nm) = true := by
  obtain ⟨h1, h2, h3, h4⟩ := ps_parts h
  rw [psL_yes h, ins_pool h1 h2, h3]
  simp [h4]
theorem ins_sub {cs : List Case} {nm : Str} {x : Case} (h : x ∈ insL cs nm) : x = newC nm ∨ x ∈ cs := by
  unfold insL at h
  rw [List.mem_append, List.mem_cons, List.mem_filter, List.mem_filter] at h
  rcases h with ⟨h, _⟩ | h | ⟨h, _⟩
  · exact .inr h
  · exact .inl h
  · exact .inr h
theorem okCases_ins {f : Flow} {cs : List Case} {nm : Str} (h : okCases cs) (hp : poolB f cs = true) (hs : nm.size ≤ maxLen) : okCases (insL cs nm) := by
  have h8 := pool_len hp
  refine ⟨?_, fun j hj => ?_⟩
  · unfold insL
    rw [List.length_append, List.length_cons]
    have h1 := List.length_filter_le (fun c : Case => strLt c.name nm) cs
    have h2 := List.length_filter_le (fun c : Case => strLt nm c.name) cs
    omega
  · have hm := ins_sub (mem_nth hj)
    rcases hm with e | hm
    · rw [e]; exact ⟨hs, Nat.zero_le _⟩
    · obtain ⟨i, hi, e⟩ := nth_of_mem hm
      rw [← e]
      exact h.2 i hi
theorem okCases_ps {f : Flow} {cs : List Case} {nm : Str} (h : okCases cs) (hs : nm.size ≤ maxLen) : okCases (psL f cs nm) := by
  cases hb : psB f cs nm
  · rw [psL_no hb]
    exact ⟨Nat.zero_le _, fun j hj => absurd hj (by simp)⟩
  · rw [psL_yes hb]
    exact okCases_ins h (ps_parts hb).1 hs
end Go.Proofs.Ytakeijgoonagcaa

/- A case is started, the reference's side. -/
namespace Go.Proofs.Ytakeijgoonagcaa
open Go.RowKit

set_option maxRecDepth 100000 in
set_option maxHeartbeats 4000000 in
theorem psS_any (A B : Option Addr) (n c m d : Nat) (f : Flow) (cs : List Case) (nm : Str) (lo lo' : Nat) (w : World) (hr : RStep w lo A n f.steps) (hok : okSteps f.steps) (hd : RCase w lo' B m cs) (hcs : okCases cs) (hnm : nm.size ≤ maxLen) :
    Calls Try.prog 40 #[.agg #[.int .i64 f.ver, .slice A n c], .slice B m d, .string nm] w fun e w' => ∃ B' m' d', e = .returned (.tuple #[.slice B' m' d', .bool (psB f cs nm)]) ∧
      RCase w' w.heap.size B' m' (psL f cs nm) ∧ m' ≤ d' ∧ Below w.heap.size w w' := by
  have HL := Lib.hid hd.1
  have hm : m ≤ 1048576 := by have := hcs.1; rw [hd.1] at this; exact this
  have HC := Lib.hid hcs; clear hcs
  have HDW := Lib.hid hd
  have HRW := Lib.hid hr
  have HX0 := Lib.hid (heap_new (w := w) (o := .cells #[.int .i64 f.ver, .slice A n c] 34) rfl)
  have HB0 := Lib.hid ((Below.refl w.heap.size w).alloc (Nat.le_refl _) (.cells #[.int .i64 f.ver, .slice A n c] 34))
  have HR0 := Lib.hid (hr.alloc (.cells #[.int .i64 f.ver, .slice A n c] 34)); clear hr
  have HD0 := Lib.hid (hd.alloc (.cells #[.int .i64 f.ver, .slice A n c] 34)); clear hd
  go_enter Try.func40, Try.ntmps40
  go_wp2_with fail
  refine (poolS_any _ _ _ _ _ _ f cs _ _ _ HR0.out hok HD0.out HC.out).mono ?_
  rintro e w1 ⟨rfl, hb⟩
  have HB1 := Lib.hid (HB0.out.trans (hb.mono HB0.out.size))
  have HD1 := Lib.hid (HD0.out.below hb)
  have HR1 := Lib.hid (HR0.out.below hb)
  have HX1 := Lib.hid ((hb.block _ (heap_lt HX0.out)).trans HX0.out)
  clear hb HB0 HD0 HR0 HX0
  cases hp : poolB f cs
  · have hps : psB f cs nm = false := by unfold psB; rw [hp]; rfl
    have HP := Lib.hid hps
    have HE := Lib.hid (psL_no hps)
    clear hp hps
    go_wp2_with fail
    exact bodyPost_ret (v := .tuple #[.slice (some ⟨w1.heap.size, 0, none⟩) 0 0, .bool false]) (by simp [results, Try.results40, go_sem]) rfl ⟨_, 0, 0, by rw [HP.out], by rw [HE.out]; exact RL.nil, Nat.le_refl _, HB1.out.alloc HB1.out.size _⟩
  go_wp2_with fail
  refine (l32At_any _ _ _ cs nm _ _ HD1.out hm).mono ?_
  rintro e w2 ⟨rfl, hw2⟩
  subst hw2
  by_cases hh : hasB (caseNames cs) nm = true
  · have hps : psB f cs nm = false := by unfold psB; rw [hp, hh]; rfl
    have HP := Lib.hid hps
    have HE := Lib.hid (psL_no hps)
    have hz : decide (0 ≤ idxI (caseNames cs) nm) = true := by rw [hasB_idx, hh]
    clear hp hps hh
    generalize idxI (caseNames cs) nm = z9 at *
    go_wp2_with fail
    exact bodyPost_ret (v := .tuple #[.slice (some ⟨w1.heap.size, 0, none⟩) 0 0, .bool false]) (by simp [results, Try.results40, go_sem]) rfl ⟨_, 0, 0, by rw [HP.out], by rw [HE.out]; exact RL.nil, Nat.le_refl _, HB1.out.alloc HB1.out.size _⟩
  replace hh : hasB (caseNames cs) nm = false := by simpa using hh
  have hz : decide (0 ≤ idxI (caseNames cs) nm) = false := by rw [hasB_idx, hh]
  obtain ⟨_, hsort, _, hlen8⟩ := poolB_iff.1 hp
  have hm8 : m ≤ 8 := by rw [← HL.out]; exact hlen8
  have HS := Lib.hid hsort; clear hsort
  have HNE := Lib.hid (ne_names hh)
  have HPS := Lib.hid (show psB f cs nm = poolB f (insL cs nm) by rw [ins_pool hp hh]; unfold psB; rw [hp, hh]; rfl)
  have HOI := Lib.hid (okCases_ins HC.out hp hnm)
  have HFL := Lib.hid (pool_flow hp)
  clear hp hh
  generalize idxI (caseNames cs) nm = z9 at *
  have x0 := (blk_cl (k := 0) HX1.out rfl).1
  have x1 := (blk_cl (k := 1) HX1.out rfl).1
  go_wp2_with fail
  refine (runNewS_any _ _ _ f _ _ HR1.out hok).mono ?_
  rintro e w3 ⟨B3, d3, rfl, hrow3, hb⟩
  have HB3 := Lib.hid (HB1.out.trans (hb.mono HB1.out.size))
  have HX3 := Lib.hid ((hb.block _ (heap_lt HX1.out)).trans HX1.out)
  have HR3 := Lib.hid (HR1.out.below hb)
  clear hb x0 x1 hrow3
  rw [HFL.out]
  have HN3 := Lib.hid (KRow.made (w := w3.alloc (.cells #[.int .i64 0, .slice B3 0 d3] 48)) (base := w.heap.size) (b := w3.heap.size + 1) (by have := HB3.out.size; simp; omega) (by simp))
  have HY3 := Lib.hid (heap_old (o := .cells #[] 52) (heap_new (w := w3) (o := .cells #[.int .i64 0, .slice B3 0 d3] 48) rfl))
  have HX4 := Lib.hid (heap_old (o := .cells #[] 52) (heap_old (o := .cells #[.int .i64 0, .slice B3 0 d3] 48) HX3.out))
  have HR4 := Lib.hid ((HR3.out.alloc (.cells #[.int .i64 0, .slice B3 0 d3] 48)).alloc (.cells #[] 52))
  have HB4 := Lib.hid ((HB3.out.alloc HB3.out.size (.cells #[.int .i64 0, .slice B3 0 d3] 48)).alloc (by have := HB3.out.size; simp; omega) (.cells #[] 52))
  go_wp2_with fail
  generalize ew4 : (w3.alloc (.cells #[.int .i64 0, .slice B3 0 d3] 48)).alloc (.cells #[] 52) = w4 at *
  have hw34 : w3.heap.size < w4.heap.size := heap_lt HY3.out
  clear ew4
  have HSS := Lib.hid (fun W : World => (⟨rfl, fun h => absurd h (by omega)⟩ : SStr W w.heap.size B3 0 (newC nm).done))
  go_loopw [10, 11, 12] (fun v dn i wr => ∃ k n1 : Nat, k ≤ m ∧ i = .int .i64 (k : Int) ∧ dn = .bool (insD cs nm k) ∧ KRow wr w.heap.size v n1 (insTo cs nm k) ∧ Below w.heap.size w wr ∧ (wr.heap[w.heap.size]? = some (.cells #[.int .i64 f.ver, .slice A n c] 34) ∧ wr.heap[w3.heap.size]? = some (.cells #[.int .i64 0, .slice B3 0 d3] 48))) (fun _ _ i _ => m - (intOf i).toNat)
  case atStart => exact ⟨0, 0, Nat.zero_le _, rfl, rfl, HN3.out, HB4.out, HX4.out, HY3.out⟩
  case round =>
    obtain ⟨wo, rfl⟩ : ∃ wo : World, wo = wr := ⟨_, rfl⟩
    obtain ⟨k, n1, hk, rfl, rfl, hrow, hbw, hFW, hYW⟩ := hrel
    have HROW := Lib.hid hrow; clear hrow
    have HBW := Lib.hid hbw; clear hbw
    have HFW := Lib.hid hFW; clear hFW
    have HYW := Lib.hid hYW; clear hYW
    have hsw := HBW.out.size
    obtain ⟨A1, c1, rfl, _⟩ := HROW.out.hat
    have hn1 : n1 ≤ 2 * k + 1 := by
      have h1 := HROW.out.len
      have h2 := insTo_len cs nm k
      omega
    by_cases hlt : k < m
    · obtain ⟨b, off, rfl, _, hc⟩ := RCase.at_ (HDW.out.below HBW.out) hlt
      obtain ⟨A', n', c', ⟨d1, d2, d3'⟩, hdr, hnc, _⟩ := hc k hlt
      clear hc
      have hkl : k < cs.length := by rw [HL.out]; exact hlt
      have hn' : n' ≤ 1048576 := by rw [← hdr.1]; exact (HC.out.2 k hkl).2
      have HDR := Lib.hid hdr; clear hdr
      have HT := Lib.hid (insTo_succ HS.out HNE.out hkl)
      have HDD := Lib.hid (insD_succ (nm := nm) hkl)
      have h8 := str_le nm (nth cs k).name
      have hways : (insD cs nm k = true ∨ (insD cs nm k = false ∧ strLt nm (nth cs k).name = false)) ∨ (insD cs nm k = false ∧ strLt nm (nth cs k).name = true) := by
        cases insD cs nm k <;> cases strLt nm (nth cs k).name <;> simp
      have hk0 : (0 : Int) ≤ (k : Int) := by omega
      have hk1 : (k : Int) < (m : Int) := by omega
      have hk2 : ¬ ((k : Int) < 0) := by omega
      rcases hways with hway | ⟨hD, hL⟩
      · have HT2 : Hid (insTo cs nm (k + 1) = insTo cs nm k ++ [nth cs k]) := Lib.hid (by
          rw [HT.out, if_neg (fun h => by rcases hway with h2 | h2 <;> simp [h.1, h.2] at h2)])
        have HD2 : Hid (insD cs nm (k + 1) = insD cs nm k) := Lib.hid (by
          rw [HDD.out]
          rcases hway with h2 | ⟨h2, h3⟩
          · rw [h2]; rfl
          · rw [h2, h3]; rfl)
        clear HT HDD
        rcases hway with h2 | ⟨h2, h3⟩
        all_goals
          rw [h2] at HD2
          rw [h2]
          (try rw [h3] at h8)
          (first | clear h2 h3 | clear h2)
          go_wp2_with fail
          refine (l32Case_any _ _ _ (nth cs k) _ _ HDR.out hn').mono ?_
          rintro e w5 ⟨A5, c5, rfl, hss5, hc5, hb5⟩
          have HSS5 := Lib.hid (hss5.mono hsw); clear hss5
          have HB5 := Lib.hid (HBW.out.trans (hb5.mono hsw))
          have HK5 := Lib.hid (HROW.out.below hb5)
          have HF5 := Lib.hid ((hb5.block _ (heap_lt HFW.out)).trans HFW.out)
          have HY5 := Lib.hid ((hb5.block _ (heap_lt HYW.out)).trans HYW.out)
          have hs5 := HB5.out.size
          clear hb5 d1 d2 d3'
          go_wp2_with (at_builtin; refine app_caseW w.heap.size (.slice A1 n1 c1) n1 (insTo cs nm k) w5.heap.size (nth cs k) A5 n' c5 ?c0 ?c1 hc5 rfl (.tmp 53) (.tmp 59) rfl rfl rfl ?c3 (by omega) ?c4 ?_)
          case c0 => exact HK5.out.alloc _
          case c1 => exact HSS5.out.alloc _
          case c3 => first | exact heap_new rfl | exact Array.getElem_push_eq
          case c4 => (try simp); omega
          intro v7 w7 how7 hg7 hat7
          have HB7 := Lib.hid ((HB5.out.alloc HB5.out.size (.cells #[.string (nth cs k).name, .int .i64 (nth cs k).st, .slice A5 n' c5] 52)).grown hg7 (by simp; omega) (fun b hb => (KRow.lt HROW.out hb).1))
          have HF7 := Lib.hid (grown_blk hg7 (heap_old HF5.out) (HROW.out.ne HFW.out (by decide)))
          have HY7 := Lib.hid (grown_blk hg7 (heap_old HY5.out) (HROW.out.ne HYW.out (by decide)))
          have HK7 := Lib.hid how7
          clear how7 hg7 hat7
          go_wp2_with fail
          go_roundw
          case rel => exact ⟨k + 1, n1 + 1, by omega, by go_num, by rw [HD2.out], by rw [HT2.out]; exact HK7.out, HB7.out, HF7.out, HY7.out⟩
          case measure => simp [intOf]; omega
      · have HT2 : Hid (insTo cs nm (k + 1) = (insTo cs nm k ++ [newC nm]) ++ [nth cs k]) := Lib.hid (by rw [HT.out, if_pos ⟨hD, hL⟩])
        have HD2 : Hid (insD cs nm (k + 1) = true) := Lib.hid (by rw [HDD.out, hL]; simp)
        rw [hL] at h8
        rw [hD]
        clear HT HDD hD hL
        have y0 := (blk_cl (k := 0) HYW.out rfl).1
        have y1 := (blk_cl (k := 1) HYW.out rfl).1
        go_wp2_with (at_builtin; refine app_caseW w.heap.size (.slice A1 n1 c1) n1 (insTo cs nm k) wo.heap.size (newC nm) B3 0 d3 ?c0 ?c1 (Nat.zero_le _) rfl (.tmp 47) (.tmp 51) rfl rfl rfl ?c3 (by omega) ?c4 ?_)
        case c0 => exact HROW.out.alloc _
        case c1 => exact HSS.out _
        case c3 => first | exact heap_new rfl | exact Array.getElem_push_eq
        case c4 => (try simp); omega
        intro v7 w7 how7 hg7 hat7
        have HB7 := Lib.hid ((HBW.out.alloc hsw (.cells #[.string nm, .int .i64 0, .slice B3 0 d3] 52)).grown hg7 (by simp; omega) (fun b hb => (KRow.lt HROW.out hb).1))
        have HF7 := Lib.hid (grown_blk hg7 (heap_old HFW.out) (HROW.out.ne HFW.out (by decide)))
        have HY7 := Lib.hid (grown_blk hg7 (heap_old HYW.out) (HROW.out.ne HYW.out (by decide)))
        have HK7 := Lib.hid how7
        have hs7 := HB7.out.size
        clear how7 hg7 hat7 y0 y1 d1 d2 d3' HDR
        obtain ⟨A7, c7, rfl, _⟩ := HK7.out.hat
        obtain ⟨b', off', e', _, hc⟩ := RCase.at_ (HDW.out.below HB7.out) hlt
        injection e' with e'
        injection e' with i1 i2
        subst i1; subst i2
        obtain ⟨A', n', c', ⟨d1, d2, d3'⟩, hdr, hnc, _⟩ := hc k hlt
        clear hc
        have hn' : n' ≤ 1048576 := by rw [← hdr.1]; exact (HC.out.2 k hkl).2
        have HDR := Lib.hid hdr; clear hdr
        go_wp2_with fail
        refine (l32Case_any _ _ _ (nth cs k) _ _ HDR.out hn').mono ?_
        rintro e w5 ⟨A5, c5, rfl, hss5, hc5, hb5⟩
        have HSS5 := Lib.hid (hss5.mono hs7); clear hss5
        have HB5 := Lib.hid (HB7.out.trans (hb5.mono hs7))
        have HK5 := Lib.hid (HK7.out.below hb5)
        have HF5 := Lib.hid ((hb5.block _ (heap_lt HF7.out)).trans HF7.out)
        have HY5 := Lib.hid ((hb5.block _ (heap_lt HY7.out)).trans HY7.out)
        have hs5 := HB5.out.size
        clear hb5 d1 d2 d3'
        go_wp2_with (at_builtin; refine app_caseW w.heap.size (.slice A7 (n1 + 1) c7) (n1 + 1) (insTo cs nm k ++ [newC nm]) w5.heap.size (nth cs k) A5 n' c5 ?c0 ?c1 hc5 rfl (.tmp 53) (.tmp 59) rfl rfl rfl ?c3 (by omega) ?c4 ?_)
        case c0 => exact HK5.out.alloc _
        case c1 => exact HSS5.out.alloc _
        case c3 => first | exact heap_new rfl | exact Array.getElem_push_eq
        case c4 => (try simp); omega
        intro v9 w9 how9 hg9 hat9
        have HB9 := Lib.hid ((HB5.out.alloc HB5.out.size (.cells #[.string (nth cs k).name, .int .i64 (nth cs k).st, .slice A5 n' c5] 52)).grown hg9 (by simp; omega) (fun b hb => (KRow.lt HK7.out hb).1))
        have HF9 := Lib.hid (grown_blk hg9 (heap_old HF5.out) (HK7.out.ne HF7.out (by decide)))
        have HY9 := Lib.hid (grown_blk hg9 (heap_old HY5.out) (HK7.out.ne HY7.out (by decide)))
        have HK9 := Lib.hid how9
        clear how9 hg9 hat9
        go_wp2_with fail
        go_roundw
        case rel => exact ⟨k + 1, n1 + 1 + 1, by omega, by go_num, by rw [HD2.out], by rw [HT2.out, List.append_assoc]; exact HK9.out, HB9.out, HF9.out, HY9.out⟩
        case measure => simp [intOf]; omega
    · obtain rfl : k = m := by omega
      have HE := Lib.hid (insTo_end (cs := cs) (nm := nm) (k := k) (by rw [HL.out]; exact Nat.le_refl _))
      have HFIN : Hid (∀ (A7 : Option Addr) (n7 c7 : Nat) (w7 : World), KRow w7 w.heap.size (.slice A7 n7 c7) n7 (insL cs nm) → RCase w7 w.heap.size A7 n7 (insL cs nm)) := fun A7 n7 c7 w7 h => by
        obtain ⟨A3, c3, e3, h⟩ := h.hat
        cases e3
        exact h
      cases hD : insD cs nm k
      · rw [hD] at HE
        have HE2 := Lib.hid (HE.out.trans (if_neg (by simp)))
        clear hD HE
        have y0 := (blk_cl (k := 0) HYW.out rfl).1
        have y1 := (blk_cl (k := 1) HYW.out rfl).1
        go_wp2_with (at_builtin; refine app_caseW w.heap.size (.slice A1 n1 c1) n1 (insTo cs nm k) wo.heap.size (newC nm) B3 0 d3 ?c0 ?c1 (Nat.zero_le _) rfl (.tmp 63) (.tmp 67) rfl rfl rfl ?c3 (by omega) ?c4 ?_)
        case c0 => exact HROW.out.alloc _
        case c1 => exact HSS.out _
        case c3 => first | exact heap_new rfl | exact Array.getElem_push_eq
        case c4 => (try simp); omega
        intro v7 w7 how7 hg7 hat7
        have HB7 := Lib.hid ((HBW.out.alloc hsw (.cells #[.string nm, .int .i64 0, .slice B3 0 d3] 52)).grown hg7 (by simp; omega) (fun b hb => (KRow.lt HROW.out hb).1))
        have HF7 := Lib.hid (grown_blk hg7 (heap_old HFW.out) (HROW.out.ne HFW.out (by decide)))
        rw [← HE2.out] at how7
        have HK7 := Lib.hid how7
        have hs7 := HB7.out.size
        clear how7 hg7 hat7 y0 y1 HE2
        obtain ⟨A7, c7, rfl, _⟩ := HK7.out.hat
        generalize n1 + 1 = n7 at *
        have f0 := (blk_cl (k := 0) HF7.out rfl).1
        have f1 := (blk_cl (k := 1) HF7.out rfl).1
        have HRC := Lib.hid (HFIN.out _ _ _ _ HK7.out)
        have hcap := HK7.out.cap3
        go_wp2_with fail
        refine (poolS_any _ _ _ _ _ _ f (insL cs nm) _ _ _ (HRW.out.below HB7.out) hok HRC.out HOI.out).mono ?_
        rintro e w8 ⟨rfl, hb8⟩
        have HB8 := Lib.hid (HB7.out.trans (hb8.mono hs7))
        have HRC8 := Lib.hid (HRC.out.below hb8)
        clear hb8 f0 f1
        cases hq : poolB f (insL cs nm)
        · have hps := HPS.out.trans hq
          have HP := Lib.hid hps
          have HEE := Lib.hid (psL_no hps)
          clear hq hps
          go_wp2_with fail
          exact bodyPost_ret (v := .tuple #[.slice (some ⟨w8.heap.size, 0, none⟩) 0 0, .bool false]) (by simp [results, Try.results40, go_sem]) rfl ⟨_, 0, 0, by rw [HP.out], by rw [HEE.out]; exact RL.nil, Nat.le_refl _, HB8.out.alloc HB8.out.size _⟩
        · have hps := HPS.out.trans hq
          have HP := Lib.hid hps
          have HEE := Lib.hid (psL_yes hps)
          clear hq hps
          go_wp2_with fail
          exact bodyPost_ret (v := .tuple #[.slice A7 n7 c7, .bool true]) (by simp [results, Try.results40, go_sem]) rfl ⟨A7, n7, c7, by rw [HP.out], by rw [HEE.out]; exact HRC8.out, hcap, HB8.out⟩
      · rw [hD] at HE
        rw [← (HE.out.trans (if_pos rfl))] at HROW
        clear hD HE
        generalize wo = w7 at *
        have HK7 := Lib.hid HROW.out
        have HB7 := Lib.hid HBW.out
        have HF7 := Lib.hid HFW.out
        have hs7 := HB7.out.size
        generalize A1 = A7 at *
        generalize c1 = c7 at *
        generalize n1 = n7 at *
        have f0 := (blk_cl (k := 0) HF7.out rfl).1
        have f1 := (blk_cl (k := 1) HF7.out rfl).1
        have HRC := Lib.hid (HFIN.out _ _ _ _ HK7.out)
        have hcap := HK7.out.cap3
        go_wp2_with fail
        refine (poolS_any _ _ _ _ _ _ f (insL cs nm) _ _ _ (HRW.out.below HB7.out) hok HRC.out HOI.out).mono ?_
        rintro e w8 ⟨rfl, hb8⟩
        have HB8 := Lib.hid (HB7.out.trans (hb8.mono hs7))
        have HRC8 := Lib.hid (HRC.out.below hb8)
        clear hb8 f0 f1
        cases hq : poolB f (insL cs nm)
        · have hps := HPS.out.trans hq
          have HP := Lib.hid hps
          have HEE := Lib.hid (psL_no hps)
          clear hq hps
          go_wp2_with fail
          exact bodyPost_ret (v := .tuple #[.slice (some ⟨w8.heap.size, 0, none⟩) 0 0, .bool false]) (by simp [results, Try.results40, go_sem]) rfl ⟨_, 0, 0, by rw [HP.out], by rw [HEE.out]; exact RL.nil, Nat.le_refl _, HB8.out.alloc HB8.out.size _⟩
        · have hps := HPS.out.trans hq
          have HP := Lib.hid hps
          have HEE := Lib.hid (psL_yes hps)
          clear hq hps
          go_wp2_with fail
          exact bodyPost_ret (v := .tuple #[.slice A7 n7 c7, .bool true]) (by simp [results, Try.results40, go_sem]) rfl ⟨A7, n7, c7, by rw [HP.out], by rw [HEE.out]; exact HRC8.out, hcap, HB8.out⟩
end Go.Proofs.Ytakeijgoonagcaa

/- Cases sorted by the library, in place. -/
namespace Go.Proofs.Ytakeijgoonagcaa
open Go.RowKit

/-- A case with its list's value. -/
abbrev TC := Case × (Option Addr × Nat × Nat)
def tv (q : TC) : Case × Value := (q.1, .slice q.2.1 q.2.2.1 q.2.2.2)
def tcells (q : TC) : List Value := [.string q.1.name, .int .i64 q.1.st, .slice q.2.1 q.2.2.1 q.2.2.2]
theorem tcells_len (q : TC) : (tcells q).length = 3 := rfl
theorem tcells_tv (qs : List TC) : qs.flatMap tcells = (qs.map tv).flatMap ccells := by
  rw [List.flatMap_map]; rfl
theorem tv_of {ps : List (Case × Value)} (h : ∀ p ∈ ps, ∃ A m c, p.2 = .slice A m c) : ∃ qs : List TC, qs.map tv = ps := by
  induction ps with
  | nil => exact ⟨[], rfl⟩
  | cons p ps ih =>
    obtain ⟨qs, hq⟩ := ih fun x hx => h x (List.mem_cons_of_mem _ hx)
    obtain ⟨A, m, c, e⟩ := h p (List.mem_cons_self ..)
    refine ⟨(p.1, A, m, c) :: qs, ?_⟩
    rw [List.map_cons, hq]
    congr 1
    unfold tv
    rw [← e]
theorem flat_arr (ps : List TC) : Sort.flatK tcells 3 ps.toArray = (ps.flatMap tcells).toArray := by
  have hlen : (ps.flatMap tcells).length = ps.length * 3 := by
    rw [List.length_flatMap]
    induction ps with
    | nil => rfl
    | cons p ps ih => rw [List.map_cons, List.sum_cons, ih, tcells_len, List.length_cons]; omega
  refine Sort.ext_get! (by simp [hlen]) fun t ht => ?_
  have ht' : t < ps.length * 3 := by simpa using ht
  rw [Sort.get_flatK _ _ _ t (by simpa using ht')]
  have h1 : t / 3 < ps.length := by omega
  have h2 : t % 3 < 3 := Nat.mod_lt _ (by omega)
  have h3 := flat_at (f := tcells) tcells_len ps (t / 3) (t % 3) h1 h2
  have h4 : t / 3 * 3 + t % 3 = t := by omega
  rw [h4] at h3
  have e1 : (ps.toArray)[t / 3]! = nth ps (t / 3) := by
    rw [getElem!_pos ps.toArray (t / 3) (by simpa using h1), nth_eq h1]
    rfl
  rw [e1]
  have e2 : ((ps.flatMap tcells).toArray)[t]! = ((ps.flatMap tcells)[t]?).getD default := by
    rw [getElem!_def, List.getElem?_toArray]
    cases (ps.flatMap tcells)[t]? <;> rfl
  rw [e2, h3]
  rw [getElem!_def]
  cases (tcells (nth ps (t / 3)))[t % 3]? <;> rfl
theorem case_holds {w : World} {g : Nat} {cur : Array Value} {e : TypeId} {ps : List (TC)} (hb : w.heap[g]? = some (.cells cur e (0, 0))) (ht : cur.toList.take (ps.length * 3) = ps.flatMap tcells) : Sort.HoldsK tcells 3 w g 0 ps.toArray := by
  unfold Sort.HoldsK
  rw [flat_arr]
  intro j hj
  have hj0 : j < (ps.flatMap tcells).length := by simpa using hj
  have hj' : j < ps.length * 3 := by
    rw [← ht, List.length_take] at hj0
    omega
  refine ⟨?_, by simp [World.frozen?, hb]⟩
  have h1 : (cur.toList.take (ps.length * 3))[j]? = (ps.flatMap tcells)[j]? := by rw [ht]
  rw [List.getElem?_take_of_lt hj'] at h1
  simp only [World.cell?, hb, Nat.zero_add]
  simp only [Option.isSome_none, Bool.false_eq_true, if_false]
  rw [← Array.getElem?_toList, h1]
  rw [getElem!_pos (ps.flatMap tcells).toArray j hj]
  simp [List.getElem?_eq_getElem hj0]
theorem sorted_heap {w : World} {g n : Nat} {os : Array Obj} {cur : Array Value} {e : TypeId} {fr : Nat × Nat} (F : Array Value) (hb : w.heap[g]? = some (.cells cur e fr)) :
    (Sort.grow (Sort.putRow id (Sort.ahead w n) g 0 F) os).heap[g]? = some (.cells (Sort.putCells id 0 F cur) e fr) := by
  have hg : g < w.heap.size := (Array.getElem?_eq_some_iff.1 hb).1
  rw [Sort.heap_grow_old _ _ (by simpa using hg)]
  simp [Sort.putRow, Sort.mapBlock, Sort.ahead, Array.getElem?_modify, hb, Sort.onCells]
theorem sorted_grown {w : World} {g n : Nat} {os : Array Obj} (F : Array Value) : w.grownBy (Sort.grow (Sort.putRow id (Sort.ahead w n) g 0 F) os) (some g) := by
  refine ⟨rfl, rfl, rfl, by simp, fun k hk hne => ?_⟩
  rw [Sort.heap_grow_old _ _ (by simpa using hk)]
  have : g ≠ k := fun e => hne (by rw [e])
  simp [Sort.putRow, Sort.mapBlock, Sort.ahead, Array.getElem?_modify, this]
theorem sorted_take (cur : Array Value) (ts : List Value) (h : ts.length ≤ cur.size) : (Sort.putCells id 0 ts.toArray cur).toList.take ts.length = ts := by
  apply List.ext_getElem?
  intro j
  by_cases hj : j < ts.length
  · rw [List.getElem?_take_of_lt hj, Array.getElem?_toList]
    simp [Sort.putCells, hj, show j < cur.size by omega]
  · rw [List.getElem?_take_eq_none (by omega), List.getElem?_eq_none (by omega)]

/-- Names in order, as the closure compares. -/
def cmpC (x y : TC) : Int := Lib.compareBytes x.1.name.data.toList y.1.name.data.toList
theorem cmp_lt : ∀ a b : List UInt8, decide (Lib.compareBytes a b < 0) = Op.bytesLess a b
  | [], [] => by simp [Lib.compareBytes, Op.bytesLess]
  | [], _ :: _ => by simp [Lib.compareBytes, Op.bytesLess]
  | _ :: _, [] => by simp [Lib.compareBytes, Op.bytesLess]
  | a :: ar, b :: br => by
    have ih := cmp_lt ar br
    unfold Lib.compareBytes Op.bytesLess
    by_cases h1 : a < b
    · simp [h1]
    · by_cases h2 : b < a
      · have hne : a ≠ b := fun e => by
          have := UInt8.lt_iff_toNat_lt.1 h2
          rw [e] at this
          omega
        simp [h1, h2, hne]
      · have he : a = b := UInt8.toNat_inj.1 (by
          have g1 : ¬ a.toNat < b.toNat := fun h => h1 (UInt8.lt_iff_toNat_lt.2 h)
          have g2 : ¬ b.toNat < a.toNat := fun h => h2 (UInt8.lt_iff_toNat_lt.2 h)
          omega)
        simp [ih, he]
theorem ltOf_name (x y : TC) : ltOf cmpC x y = strLt x.1.name y.1.name := by
  unfold ltOf cmpC strLt
  rw [cmp_lt, ByteArray.toList_eq, ByteArray.toList_eq]
theorem swoC : Sort.SWO (ltOf cmpC) := by
  refine ⟨fun x => by rw [ltOf_name]; exact strLt_irr _, fun x y z h1 h2 => ?_, fun x y z h1 h2 => ?_⟩
  · rw [ltOf_name] at *; exact strLt_trans h1 h2
  · rw [ltOf_name] at *
    rcases strLt_tri x.1.name z.1.name with h | h | h
    · rcases strLt_tri y.1.name z.1.name with k | k | k
      · rw [h2] at k; cases k
      · rw [← k] at h; rw [h1] at h; cases h
      · rcases strLt_tri x.1.name y.1.name with m | m | m
        · rw [h1] at m; cases m
        · rw [m] at h; exact absurd (strLt_trans h k) (by rw [strLt_irr]; simp)
        · have := strLt_trans h (strLt_trans k m); rw [strLt_irr] at this; cases this
    · rw [h]; exact strLt_irr _
    · exact strLt_asymm h

theorem cmpC_any (x y : TC) (W : World) : Calls Try.prog 88 #[.agg (tcells x).toArray, .agg (tcells y).toArray] W fun e w' => e = .returned (.int .i64 (cmpC x y)) ∧ ∃ q os', w' = Sort.grow (W.drewN q) os' := by
  have hcon := fun W' => Try.strings_Compare x.1.name y.1.name W'
  have e : Lib.compareBytes x.1.name.data.toList y.1.name.data.toList = cmpC x y := rfl
  rw [e] at hcon
  clear e
  generalize cmpC x y = r at *
  obtain ⟨xc, A, n, c⟩ := x
  obtain ⟨yc, B, m, d⟩ := y
  show Calls Try.prog 88 #[.agg #[.string xc.name, .int .i64 xc.st, .slice A n c], .agg #[.string yc.name, .int .i64 yc.st, .slice B m d]] W _
  go_enter Try.func88, Try.ntmps88
  go_wp2_with (go_at_call 89; refine (hcon _).mono ?_; rintro e w' ⟨rfl, rfl⟩)
  go_ret
  exact ⟨rfl, 0, _, by rw [Sort.alloc_eq_grow, Sort.alloc_eq_grow, Sort.grow_grow]; rfl⟩

theorem hlenC (n : Nat) (W : World) (h : n ≤ 12) : Calls Try.prog 141 #[.int .u64 n] W fun e w' => (∃ l : Int, e = .returned (.int .i64 l)) ∧ w' = W :=
  (Try.bits_Len n W (by omega) (by omega)).mono fun _ _ ⟨he, hw⟩ => ⟨⟨_, he⟩, hw⟩
theorem perm_eq {α : Type} [Inhabited α] {d d' : Array α} (h : Sort.PermIn 0 d.size d d') : d'.toList.Perm d.toList := by
  obtain ⟨h1, _, h3⟩ := h
  have e1 : d'.extract 0 d.size = d' := by rw [← h1]; exact Array.extract_size
  rw [e1, Array.extract_size] at h3
  exact h3
theorem sort_any (b c : Nat) (qs : List TC) (base : Nat) (w : World) (hrow : w.ownsRow base 52 3 (.slice (some ⟨b, 0, none⟩) qs.length c) qs.length (qs.flatMap tcells)) (h12 : qs.length ≤ 12) :
    Calls Try.prog 87 #[.slice (some ⟨b, 0, none⟩) qs.length c, .func (.func 88) #[] #[]] w fun e w' => e = .returned (.tuple #[]) ∧ ∃ rs : List TC, rs.Perm qs ∧ rs.Pairwise (fun p q => strLt q.1.name p.1.name = false) ∧
      w'.ownsRow base 52 3 (.slice (some ⟨b, 0, none⟩) qs.length c) qs.length (rs.flatMap tcells) ∧ w.grownBy w' (some b) := by
  obtain ⟨hl, hrow⟩ := hrow
  rcases hrow with ⟨h0, _⟩ | ⟨g, cap, cur, hv, hbase, hb, h1, h2, h3, h4⟩
  · cases h0
  injection hv with e1 _ e3
  injection e1 with e1
  injection e1 with e1 _
  subst e1; subst e3
  have eg : ∀ args w, (callFunc 88 args).run Try.prog w = .ok (.enter 88 args) w := enters_of Try.func88 (by kernel_rfl) rfl
  have hcmp : CmpLays Try.prog 88 #[] tcells 3 cmpC b 0 qs.toArray.size w := fun _ _ _ _ x y => cmpC_any x y _
  have hH := case_holds hb h4
  have hcon := AnyQ.slices_SortFunc_small_sorted Try.sortC 3 Try.isAgg52 Try.sizeOf52 tcells (fun _ => rfl) (fun x v hv => by simp [tcells] at hv; rcases hv with rfl | rfl | rfl <;> rfl) cmpC 88 #[] swoC b 0 c qs.toArray w eg hcmp hH (heap_lt hb) (by simpa using h12) hlenC
  change Calls Try.prog 87 _ _ _ at hcon
  have es : qs.toArray.size = qs.length := by simp
  rw [es] at hcon
  refine hcon.mono ?_
  rintro e w' ⟨rfl, d', n, os, hp, hs, rfl⟩
  have hp0 := hp
  rw [← es] at hp0
  have hperm := perm_eq hp0
  have hd : d'.size = qs.length := hp.1.trans es
  refine ⟨rfl, d'.toList, by simpa using hperm, ?_, ?_, ?_⟩
  · rw [List.pairwise_iff_getElem]
    intro i j hi hj hij
    have := hs i j (Nat.zero_le _) hij (by simp at hj; omega)
    rw [ltOf_name] at this
    simp at hi hj
    rw [getElem!_pos d' i hi, getElem!_pos d' j hj] at this
    simpa using this
  · have hf : Sort.flatK tcells 3 d' = (d'.toList.flatMap tcells).toArray := by
      have := flat_arr d'.toList
      simpa using this
    have hlen2 : (d'.toList.flatMap tcells).length = qs.length * 3 := by
      have h5 : (Sort.flatK tcells 3 d').size = d'.size * 3 := Sort.size_flatK _ _ _
      rw [hf] at h5
      simpa [hd] using h5
    refine ⟨hlen2, .inr ⟨b, c, Sort.putCells id 0 (Sort.flatK tcells 3 d') cur, rfl, hbase, ?_, h1, h2, by simp [Sort.putCells, h3], ?_⟩⟩
    · exact sorted_heap _ hb
    · rw [hf, ← hlen2]
      exact sorted_take cur _ (by rw [hlen2, h3]; exact Nat.mul_le_mul_right _ h1)
  · exact sorted_grown _

/-- A row of cases with disjoint lists, sorted. -/
theorem sortRow_any (b c n : Nat) (ss : List Case) (base lo1 hi : Nat) (w : World) (hk : KRowD w base none lo1 hi (.slice (some ⟨b, 0, none⟩) n c) n ss) (h12 : n ≤ 12) :
    Calls Try.prog 87 #[.slice (some ⟨b, 0, none⟩) n c, .func (.func 88) #[] #[]] w fun e w' => e = .returned (.tuple #[]) ∧ ∃ ts : List Case, ts.Perm ss ∧ ts.Pairwise (fun p q => strLt q.name p.name = false) ∧
      KRowD w' base none lo1 hi (.slice (some ⟨b, 0, none⟩) n c) n ts ∧ w.grownBy w' (some b) := by
  have hlen := hk.row.len
  obtain ⟨ps, e, h1, h2, h3⟩ := hk
  obtain ⟨qs, hq⟩ := tv_of (ps := ps) fun p hp => by
    obtain ⟨A, m, c, e2, _⟩ := h2 p hp
    exact ⟨A, m, c, e2⟩
  subst hq
  have hn : qs.length = n := by rw [← hlen, ← e]; simp
  subst hn
  rw [← tcells_tv] at h1
  obtain ⟨cur, hcur⟩ := row_blk h1 (b := b) rfl
  refine (sort_any b c qs base w h1 h12).mono ?_
  rintro e9 w' ⟨rfl, rs, hp, hs, ho, hg⟩
  have hpm : (rs.map tv).Perm (qs.map tv) := hp.map _
  refine ⟨rfl, (rs.map tv).map (·.1), ?_, ?_, ⟨rs.map tv, rfl, by rw [← tcells_tv]; exact ho, fun p hpp => ?_, ?_⟩, hg⟩
  · rw [← e]; exact hpm.map _
  · rw [List.map_map, List.pairwise_map]
    exact hs.imp fun h => h
  · obtain ⟨A, m, c', e2, h4, h5, h6⟩ := h2 p (hpm.subset hpp)
    refine ⟨A, m, c', e2, h4.kept fun b' cs' _ hc => hg.block b' (heap_lt hc) ?_, h5, h6⟩
    intro e3
    injection e3 with e3
    subst e3
    rw [hcur] at hc
    have := Option.some.inj hc
    injection this with _ e4
    exact absurd e4 (by decide)
  · refine (hpm.pairwise_iff ?_).2 h3
    intro x y h b' A m c A' m' c' e1 e2 g1 g2 g3 g4
    exact h b' A' m' c' A m c e2 e1 g2 g1 g4 g3
/-- What is in order and has these members is the pool with the new case. -/
theorem ins_of_sorted {cs ts : List Case} {nm : Str} (hp : cs.Pairwise caseLt) (hn : ∀ c ∈ cs, c.name ≠ nm) (hperm : ts.Perm (cs ++ [newC nm])) (hs : ts.Pairwise (fun a b => strLt b.name a.name = false)) : ts = insL cs nm := by
  have hne : (cs ++ [newC nm]).Pairwise (fun a b => a.name ≠ b.name) := by
    rw [List.pairwise_append]
    refine ⟨hp.imp fun h => strLt_ne h, List.pairwise_singleton .., fun a ha b hb => ?_⟩
    rw [List.mem_singleton] at hb
    subst hb
    exact hn a ha
  have hne2 := (hperm.pairwise_iff (fun h => Ne.symm h)).2 hne
  refine sorted_unique (hperm.trans (ins_perm hp hn)) ?_ (ins_sorted hp)
  refine (hs.and hne2).imp ?_
  rintro a b ⟨h1, h2⟩
  rcases strLt_tri a.name b.name with h | h | h
  · exact h
  · exact absurd h h2
  · rw [h1] at h; cases h
end Go.Proofs.Ytakeijgoonagcaa

/- A case is started, the program's side. -/
namespace Go.Proofs.Ytakeijgoonagcaa
open Go.RowKit

set_option maxRecDepth 100000 in
theorem runNewI_any (A : Option Addr) (n c : Nat) (f : Flow) (lo : Nat) (w : World) (hr : RStep w lo A n f.steps) (hok : okSteps f.steps) :
    Calls Try.prog 85 #[.agg #[.int .i64 f.ver, .slice A n c]] w fun e w' => e = .returned (.tuple #[.agg #[.int .i64 0, .slice none 0 0], .bool (flowB f)]) ∧ Below w.heap.size w w' := by
  have HR := Lib.hid ((hr.alloc (.cells #[.int .i64 f.ver, .slice A n c] 34)).alloc (.cells #[.int .i64 0, .slice none 0 0] 48)); clear hr
  have HB := Lib.hid (((Below.refl w.heap.size w).alloc (Nat.le_refl _) (.cells #[.int .i64 f.ver, .slice A n c] 34)).alloc (by simp) (.cells #[.int .i64 0, .slice none 0 0] 48))
  have HX := Lib.hid (heap_new (w := w.alloc (.cells #[.int .i64 f.ver, .slice A n c] 34)) (b := w.heap.size + 1) (o := .cells #[.int .i64 0, .slice none 0 0] 48) (by simp))
  go_enter Try.func85, Try.ntmps85
  go_wp2_with fail
  refine (flowI_any _ _ _ f _ _ HR.out hok).mono ?_
  rintro e w1 ⟨rfl, hb⟩
  have HX1 := Lib.hid ((hb.block _ (heap_lt HX.out)).trans HX.out)
  have HB1 := Lib.hid (HB.out.trans (hb.mono HB.out.size))
  clear hb
  have z0 := (blk_cl (k := 0) HX1.out rfl).1
  have z0' := (blk_cl (k := 0) HX1.out rfl).2
  have z1 := (blk_cl (k := 1) HX1.out rfl).1
  have z1' := (blk_cl (k := 1) HX1.out rfl).2
  go_wp2_with fail
  have hres := set21 (u := .slice none 0 0) (set20 (u := .int .i64 0) HX1.out)
  have e0 := (blk_cl (k := 0) hres rfl).1
  have e1 := (blk_cl (k := 1) hres rfl).1
  exact bodyPost_ret (v := .tuple #[.agg #[.int .i64 0, .slice none 0 0], .bool (flowB f)]) (by simp [results, Try.results85, go_sem, e0, e1]) rfl ⟨rfl, (HB1.out.setCell (p := ⟨w.heap.size + 1, 0, none⟩) (by show w.heap.size ≤ w.heap.size + 1; omega) _).setCell (p := ⟨w.heap.size + 1, 1, none⟩) (by show w.heap.size ≤ w.heap.size + 1; omega) _⟩

theorem KRowD.mono {w : World} {base base' n lo1 hi : Nat} {av : Option Nat} {v : Value} {ss : List Case} (h : KRowD w base av lo1 hi v n ss) (hb : base' ≤ base) (hl : base' ≤ lo1) : KRowD w base' av base' hi v n ss := by
  obtain ⟨ps, e, h1, h2, h3⟩ := h
  refine ⟨ps, e, row_mono h1 hb, fun p hp => ?_, h3⟩
  obtain ⟨A, m, c, e2, h4, h5, h6⟩ := h2 p hp
  refine ⟨A, m, c, e2, h4.mono hb, h5, fun b hb hm => ?_⟩
  obtain ⟨a1, a2, a3⟩ := h6 b hb hm
  exact ⟨a1, by omega, a3⟩

set_option maxRecDepth 100000 in
set_option maxHeartbeats 4000000 in
theorem psI_any (A B : Option Addr) (n c m d : Nat) (f : Flow) (cs : List Case) (nm : Str) (lo lo' : Nat) (w : World) (hr : RStep w lo A n f.steps) (hok : okSteps f.steps) (hd : RCase w lo' B m cs) (hcs : okCases cs) (hnm : nm.size ≤ maxLen) :
    Calls Try.prog 39 #[.agg #[.int .i64 f.ver, .slice A n c], .slice B m d, .string nm] w fun e w' => ∃ B' m' d', e = .returned (.tuple #[.slice B' m' d', .bool (psB f cs nm)]) ∧
      DR w' w.heap.size B' m' (psL f cs nm) ∧ m' ≤ d' ∧ Below w.heap.size w w' := by
  have HL := Lib.hid hd.1
  have hm : m ≤ 1048576 := by have := hcs.1; rw [hd.1] at this; exact this
  have HC := Lib.hid hcs; clear hcs
  have HRW := Lib.hid hr
  have HX0 := Lib.hid (heap_new (w := w) (o := .cells #[.int .i64 f.ver, .slice A n c] 34) rfl)
  have HB0 := Lib.hid ((Below.refl w.heap.size w).alloc (Nat.le_refl _) (.cells #[.int .i64 f.ver, .slice A n c] 34))
  have HR0 := Lib.hid (hr.alloc (.cells #[.int .i64 f.ver, .slice A n c] 34)); clear hr
  have HD0 := Lib.hid (hd.alloc (.cells #[.int .i64 f.ver, .slice A n c] 34)); clear hd
  go_enter Try.func39, Try.ntmps39
  go_wp2_with fail
  refine (poolI_any _ _ _ _ _ _ f cs _ _ _ HR0.out hok HD0.out HC.out).mono ?_
  rintro e w1 ⟨rfl, hb⟩
  have HB1 := Lib.hid (HB0.out.trans (hb.mono HB0.out.size))
  have HD1 := Lib.hid (HD0.out.below hb)
  have HR1 := Lib.hid (HR0.out.below hb)
  have HX1 := Lib.hid ((hb.block _ (heap_lt HX0.out)).trans HX0.out)
  clear hb HB0 HD0 HR0 HX0
  cases hp : poolB f cs
  · have hps : psB f cs nm = false := by unfold psB; rw [hp]; rfl
    have HP := Lib.hid hps
    have HE := Lib.hid (psL_no hps)
    clear hp hps
    go_wp2_with fail
    exact bodyPost_ret (v := .tuple #[.slice none 0 0, .bool false]) (by simp [results, Try.results39, go_sem]) rfl ⟨none, 0, 0, by rw [HP.out], by rw [HE.out]; exact DR.nil, Nat.le_refl _, HB1.out⟩
  go_wp2_with fail
  refine (caseAt_any _ _ _ cs nm _ _ HD1.out hm).mono ?_
  rintro e w2 ⟨rfl, hb⟩
  have HB2 := Lib.hid (HB1.out.trans (hb.mono HB1.out.size))
  have HD2 := Lib.hid (HD1.out.below hb)
  have HR2 := Lib.hid (HR1.out.below hb)
  have HX2 := Lib.hid ((hb.block _ (heap_lt HX1.out)).trans HX1.out)
  clear hb HB1 HD1 HR1 HX1
  by_cases hh : hasB (caseNames cs) nm = true
  · have hps : psB f cs nm = false := by unfold psB; rw [hp, hh]; rfl
    have HP := Lib.hid hps
    have HE := Lib.hid (psL_no hps)
    have hz : decide (0 ≤ idxI (caseNames cs) nm) = true := by rw [hasB_idx, hh]
    clear hp hps hh
    generalize idxI (caseNames cs) nm = z9 at *
    go_wp2_with fail
    exact bodyPost_ret (v := .tuple #[.slice none 0 0, .bool false]) (by simp [results, Try.results39, go_sem]) rfl ⟨none, 0, 0, by rw [HP.out], by rw [HE.out]; exact DR.nil, Nat.le_refl _, HB2.out⟩
  replace hh : hasB (caseNames cs) nm = false := by simpa using hh
  have hz : decide (0 ≤ idxI (caseNames cs) nm) = false := by rw [hasB_idx, hh]
  obtain ⟨_, hsort, _, hlen8⟩ := poolB_iff.1 hp
  have hm8 : m ≤ 8 := by rw [← HL.out]; exact hlen8
  have HS := Lib.hid hsort; clear hsort
  have HNE := Lib.hid (ne_names hh)
  have HPS := Lib.hid (show psB f cs nm = poolB f (insL cs nm) by rw [ins_pool hp hh]; unfold psB; rw [hp, hh]; rfl)
  have HOI := Lib.hid (okCases_ins HC.out hp hnm)
  have HFL := Lib.hid (pool_flow hp)
  clear hp hh hlen8
  generalize idxI (caseNames cs) nm = z9 at *
  have x0 := (blk_cl (k := 0) HX2.out rfl).1
  have x1 := (blk_cl (k := 1) HX2.out rfl).1
  go_wp2_with fail
  refine (runNewI_any _ _ _ f _ _ HR2.out hok).mono ?_
  rintro e w3 ⟨rfl, hb⟩
  have HB3 := Lib.hid (HB2.out.trans (hb.mono HB2.out.size))
  have HX3 := Lib.hid (heap_old (o := .cells #[.int .i64 0, .slice none 0 0] 48) ((hb.block _ (heap_lt HX2.out)).trans HX2.out))
  have HR3 := Lib.hid ((HR2.out.below hb).alloc (.cells #[.int .i64 0, .slice none 0 0] 48))
  have HD3 := Lib.hid ((HD2.out.below hb).alloc (.cells #[.int .i64 0, .slice none 0 0] 48))
  have HY3 := Lib.hid (heap_new (w := w3) (o := .cells #[.int .i64 0, .slice none 0 0] 48) rfl)
  have HB4 := Lib.hid (HB3.out.alloc HB3.out.size (.cells #[.int .i64 0, .slice none 0 0] 48))
  rw [HFL.out]
  clear hb x0 x1 HB2 HX2 HR2 HD2
  go_upto_region 4 with fail
  generalize ewk : w3.alloc (.cells #[.int .i64 0, .slice none 0 0] 48) = wk at *
  clear ewk
  have hsw : w.heap.size ≤ wk.heap.size := HB4.out.size
  have hyb := heap_lt HY3.out
  have HSB : Hid (∀ w', Below wk.heap.size wk w' → (w'.cell? ⟨w3.heap.size, 0, none⟩ = some (.int .i64 0) ∧ w'.cell? ⟨w3.heap.size, 1, none⟩ = some (.slice none 0 0)) ∧ Below wk.heap.size wk w') := fun w' h => by
    have e1 := (h.block _ (heap_lt HY3.out)).trans HY3.out
    exact ⟨⟨(blk_cl (k := 0) e1 rfl).1, (blk_cl (k := 1) e1 rfl).1⟩, h⟩
  have HKP : Hid (∀ {v5 : Value} {cs5 : List Case} {n5 : Nat} {w5 w7 : World}, Below wk.heap.size wk w5 → KRow w5 wk.heap.size v5 n5 cs5 → w5.grownBy w7 v5.ownBlock → (w7.cell? ⟨w3.heap.size, 0, none⟩ = some (.int .i64 0) ∧ w7.cell? ⟨w3.heap.size, 1, none⟩ = some (.slice none 0 0)) ∧ Below wk.heap.size wk w7) := fun {v5 cs5 n5 w5 w7} h hk hg => by
    have e1 := grown_blk hg ((h.block _ (heap_lt HY3.out)).trans HY3.out) (hk.ne ((h.block _ (heap_lt HY3.out)).trans HY3.out) (by decide))
    refine ⟨⟨(blk_cl (k := 0) e1 rfl).1, (blk_cl (k := 1) e1 rfl).1⟩, h.grown hg h.size (fun b hb => ?_)⟩
    obtain ⟨A5, c5, e5, _⟩ := hk.hat
    rw [e5] at hb hk
    exact (KRow.lt hk hb).1
  go_wp2_with fail
  go_region_held3 (fun w' => w'.cell? ⟨w3.heap.size, 0, none⟩ = some (.int .i64 0) ∧ w'.cell? ⟨w3.heap.size, 1, none⟩ = some (.slice none 0 0))
    (first | exact hk7.1 | exact (HSB.out _ hbw).1 | exact (HSB.out _ (Below.al_ hbw _)).1 | exact (HSB.out _ (Below.refl _ _).drew).1 | exact (HSB.out _ (Below.al_ (Below.refl wk.heap.size wk).drew _)).1 | fail "keep")
    (first
      | (go_at_call 86; refine (cloneCases_any _ _ _ cs _ _ (HD3.out.below (by repeat (first | with_reducible exact Below.refl _ _ | apply Below.drew | apply Below.al_))) HC.out).mono ?_; rintro e w5 ⟨v5, rfl, hk5', hb5⟩; have hz5 := (hb5.block wk.heap.size (by simp)).trans (heap_new (w := wk) (b := wk.heap.size) (o := .cells #[.string nm, .int .i64 0, .slice none 0 0] 52) rfl); have hbw : Below wk.heap.size wk w5 := (Below.al_ (Below.refl wk.heap.size wk).drew _).trans (hb5.mono (by simp)); have hk5 := hk5'.mono (base' := wk.heap.size) (by simp) (by simp))
      | (go_at_call 86; refine (cloneCases_any _ _ _ cs _ _ (HD3.out.below (by repeat (first | with_reducible exact Below.refl _ _ | apply Below.drew | apply Below.al_))) HC.out).mono ?_; rintro e w5 ⟨v5, rfl, hk5', hb5⟩; have hbw : Below wk.heap.size wk w5 := (Below.refl wk.heap.size wk).drew.trans hb5; have hk5 := hk5'.mono (base' := wk.heap.size) (Nat.le_refl _) (Nat.le_refl _))
      | (refine case_stepD (o := ⟨some 32, _, _, _, _, _⟩) wk.heap.size wk.heap.size w5.heap.size wk.heap.size w5.heap.size none _ m cs _ (newC nm) none 0 0 (by exact hk5) (by exact ⟨rfl, fun h => absurd h (by omega)⟩) (Nat.le_refl _) (Nat.le_refl _) (Nat.le_refl _) (fun b hb hm => absurd hm (by omega)) (by rfl) (.tmp 27) (.tmp 31) (by rfl) (by rfl) (by rfl) (by exact hz5) (by omega) (by (have h1 := hbw.size; (try simp); omega)) ?_; intro v7 w7 how7 hg7 hat7; have hk7 := HKP.out hbw hk5.row hg7)
      | (refine case_stepD (o := ⟨some 32, _, _, _, _, _⟩) wk.heap.size wk.heap.size w5.heap.size wk.heap.size w5.heap.size none _ m cs _ (newC nm) none 0 0 (by exact (hk5.alloc _)) (by exact ⟨rfl, fun h => absurd h (by omega)⟩) (Nat.le_refl _) (Nat.le_refl _) (Nat.le_refl _) (fun b hb hm => absurd hm (by omega)) (by rfl) (.tmp 27) (.tmp 31) (by rfl) (by rfl) (by rfl) (by exact heap_new rfl) (by omega) (by (have h1 := hbw.size; (try simp); omega)) ?_; intro v7 w7 how7 hg7 hat7; have hk7 := HKP.out (Below.al_ hbw _) (hk5.row.alloc _) hg7)
      | fail "no arm")
  all_goals
    have hb7 := hk7.2
    have HK7 := Lib.hid how7
    have hs5w : w5.heap.size ≤ w7.heap.size := by have := hg7.size; (try simp at this); omega
    clear how7 hg7 hat7 hk7 hk5 hk5' hb5 hbw HSB HKP
    have HB7 := Lib.hid (HB4.out.trans (hb7.mono hsw))
    have HX7 := Lib.hid ((hb7.block _ (heap_lt HX3.out)).trans HX3.out)
    clear hb7
    obtain ⟨A7, c7, rfl, _⟩ := HK7.out.row.hat
    obtain ⟨b7, rfl⟩ : ∃ b7, A7 = some ⟨b7, 0, none⟩ := by
      obtain ⟨ps, _, hrow, _⟩ := HK7.out
      obtain ⟨A9, c9, e9, hf⟩ := own_form hrow
      injection e9 with e9
      subst e9
      obtain ⟨b, hb, _⟩ := hf (by omega)
      exact ⟨b, hb⟩
    have hcap := HK7.out.row.cap3
    go_wp2_with fail
    refine (sortRow_any b7 c7 (m + 1) (cs ++ [newC nm]) _ _ _ _ HK7.out (by omega)).mono ?_
    rintro e w8 ⟨rfl, ts, hperm, hsrt, hk8, hg8⟩
    have hts := ins_of_sorted HS.out HNE.out hperm hsrt
    subst hts
    clear hperm hsrt
    have hlo8 := (KRow.lt HK7.out.row (b := b7) rfl).1
    have HB8 := Lib.hid (HB7.out.grown hg8 HB7.out.size (fun b hb => by injection hb with hb; omega))
    have HX8 := Lib.hid (grown_blk hg8 HX7.out (HK7.out.row.ne HX7.out (by decide)))
    have HR8 := Lib.hid (HRW.out.below HB8.out)
    have HK8 := Lib.hid hk8
    clear hk8
    obtain ⟨A9, c9, e9, hdr, hcap9⟩ := HK8.out.dr
    injection e9 with i1 _ i3
    subst i1; subst i3
    have HDR := Lib.hid hdr; clear hdr
    have y0 := (blk_cl (k := 0) HX8.out rfl).1
    have y1 := (blk_cl (k := 1) HX8.out rfl).1
    go_wp2_with fail
    refine (poolI_any _ _ _ _ _ _ f (insL cs nm) _ _ _ HR8.out hok HDR.out.hat HOI.out).mono ?_
    rintro e w9 ⟨rfl, hb9⟩
    have HB9 := Lib.hid (HB8.out.trans (hb9.mono HB8.out.size))
    have HDR9 := Lib.hid (HDR.out.below hb9)
    clear hb9 y0 y1
    cases hq : poolB f (insL cs nm)
    · have hps := HPS.out.trans hq
      have HP := Lib.hid hps
      have HEE := Lib.hid (psL_no hps)
      clear hq hps
      go_wp2_with fail
      exact bodyPost_ret (v := .tuple #[.slice none 0 0, .bool false]) (by simp [results, Try.results39, go_sem]) rfl ⟨none, 0, 0, by rw [HP.out], by rw [HEE.out]; exact DR.nil, Nat.le_refl _, HB9.out⟩
    · have hps := HPS.out.trans hq
      have HP := Lib.hid hps
      have HEE := Lib.hid (psL_yes hps)
      clear hq hps
      go_wp2_with fail
      exact bodyPost_ret (v := .tuple #[.slice (some ⟨b7, 0, none⟩) (m + 1) c7, .bool true]) (by simp [results, Try.results39, go_sem]) rfl ⟨_, m + 1, c7, by rw [HP.out], by rw [HEE.out]; exact HDR9.out.lower hsw, hcap, HB9.out⟩
end Go.Proofs.Ytakeijgoonagcaa

/- Drawing a pool and a name out of a code. -/
namespace Go.Proofs.Ytakeijgoonagcaa
open Go.RowKit

def PoolStD (w : World) (e : Ending) (w' : World) : Prop :=
  ∃ (f : Flow) (A : Option Addr) (n c : Nat) (B : Option Addr) (m d : Nat) (cs : List Case) (nm : Str), e = .returned (.tuple #[.agg #[.int .i64 f.ver, .slice A n c], .slice B m d, .string nm]) ∧
    RStep w' w.heap.size A n f.steps ∧ okSteps f.steps ∧ 1 ≤ n ∧ n ≤ 6 ∧ RCase w' w.heap.size B m cs ∧ okCases cs ∧ m ≤ d ∧ m ≤ 9 ∧ nm.size ≤ 6 ∧ Below w.heap.size w w'

theorem cellFar {w : World} {b b' o o' : Nat} {u : Value} (h : b ≠ b') : (w.setCell ⟨b', o', none⟩ u).cell? ⟨b, o, none⟩ = w.cell? ⟨b, o, none⟩ :=
  World.cell?_setCell_other _ _ _ _ (fun e => by injection e with e; exact h e.symm)

set_option maxRecDepth 100000 in
set_option maxHeartbeats 4000000 in
theorem drawPoolStart_any (A : Option Addr) (n c : Nat) (w : World) (hr : RByte w A n) (hc : n ≤ c) (hn : n ≤ 1048576) : Calls Try.prog 38 #[.slice A n c] w (PoolStD w) := by
  have HR := Lib.hid (hr.alloc (.cells #[.int .i64 0, .slice none 0 0] 34)); clear hr
  go_enter Try.func38, Try.ntmps38
  go_wp2_with fail
  refine (open_any _ _ _ _ HR.out hc hn).mono ?_
  rintro e w1 ⟨rfl, hrd, hb1⟩
  have hsz : (w.alloc (.cells #[.int .i64 0, .slice none 0 0] 34)).heap.size = w.heap.size + 1 := by simp
  rw [hsz] at hrd hb1 ⊢
  obtain ⟨g, hg⟩ : ∃ g, g = w.heap.size + 1 := ⟨_, rfl⟩
  rw [← hg] at hrd hb1 ⊢
  have hd0 : Dr 158 w1 g 0 w1 := ⟨On.refl _ _, 0, Nat.le_refl _, hrd⟩
  have hl1 := hrd.lt
  have HRF := Lib.hid ((hb1.block w.heap.size (by omega)).trans (heap_new (w := w) (o := .cells #[.int .i64 0, .slice none 0 0] 34) rfl))
  have HB1 := Lib.hid (((Below.refl w.heap.size w).alloc (Nat.le_refl _) (.cells #[.int .i64 0, .slice none 0 0] 34)).trans (hb1.mono (by omega)))
  have hg0 : w.heap.size < g := by omega
  have hg1 : g ≤ w.heap.size + 1 := by omega
  clear hrd hb1 hsz hg
  go_wp2_with fail
  refine (l92Pool_any w1 _ _ _ hd0 (by omega)).mono ?_
  rintro e w2 ⟨v, A2, n2, c2, ss, B2, m2, d2, cs, rfl, hs, hok, h1, h6, hcs, hokc, hmd, hm9, hd, hon⟩
  have HS := Lib.hid (hs.alloc (.cells #[.int .i64 v, .slice A2 n2 c2] 34)); clear hs
  have HC := Lib.hid (hcs.alloc (.cells #[.int .i64 v, .slice A2 n2 c2] 34)); clear hcs
  have HD2 := Lib.hid (hd.alloc (.cells #[.int .i64 v, .slice A2 n2 c2] 34)); clear hd
  have HF2 := Lib.hid (heap_old (o := .cells #[.int .i64 v, .slice A2 n2 c2] 34) (hon.blk HRF.out (by omega)))
  have HX2 := Lib.hid (heap_new (w := w2) (o := .cells #[.int .i64 v, .slice A2 n2 c2] 34) rfl)
  have hs2 := hon.size
  have HON2 := Lib.hid (hon.alloc (.cells #[.int .i64 v, .slice A2 n2 c2] 34))
  have HOK := Lib.hid hok; clear hok
  have HOC := Lib.hid hokc; clear hokc
  clear hon hd0
  have hw2 : w2.heap.size < (w2.alloc (.cells #[.int .i64 v, .slice A2 n2 c2] 34)).heap.size := by simp
  go_wp2_with fail
  generalize w2.alloc (.cells #[.int .i64 v, .slice A2 n2 c2] 34) = W at *
  refine (pick w1 g _ _ _ HD2.out (by omega) (by omega)).mono ?_
  rintro e w6 ⟨v6, rfl, b1, b2, b3, hd6, hon6⟩
  have HD6 := Lib.hid hd6; clear hd6 b1 b2 b3
  have HX6 := Lib.hid (hon6.blk HX2.out (by omega))
  have HF6 := Lib.hid (hon6.blk HF2.out (by omega))
  have hs6 := hon6.size
  have HON6 := Lib.hid (HON2.out.trans hon6)
  have HS6 := Lib.hid (HS.out.on hon6 (by omega))
  have HC6 := Lib.hid (HC.out.on hon6 (by omega))
  clear hon6
  have HSB : Hid (∀ w', On g w6 w' → w'.cell? ⟨w2.heap.size, 0, none⟩ = some (.int .i64 v) ∧ w'.cell? ⟨w2.heap.size, 1, none⟩ = some (.slice A2 n2 c2)) := fun w' h => ⟨(blk_cl (k := 0) (h.blk HX6.out (by omega)) rfl).1, (blk_cl (k := 1) (h.blk HX6.out (by omega)) rfl).1⟩
  have HKF : Hid (∀ w' o u, (fun w' : World => w'.cell? ⟨w2.heap.size, 0, none⟩ = some (.int .i64 v) ∧ w'.cell? ⟨w2.heap.size, 1, none⟩ = some (.slice A2 n2 c2)) w' → (fun w' : World => w'.cell? ⟨w2.heap.size, 0, none⟩ = some (.int .i64 v) ∧ w'.cell? ⟨w2.heap.size, 1, none⟩ = some (.slice A2 n2 c2)) (w'.setCell ⟨w.heap.size, o, none⟩ u)) := fun w' o u h => ⟨(cellFar (by omega)).trans h.1, (cellFar (by omega)).trans h.2⟩
  by_cases hz : v6 = 0
  · subst hz
    go_wp2_with fail
    go_region_held3 (fun w' => w'.cell? ⟨w2.heap.size, 0, none⟩ = some (.int .i64 v) ∧ w'.cell? ⟨w2.heap.size, 1, none⟩ = some (.slice A2 n2 c2))
      (((repeat (first | exact HSB.out _ (On.refl _ _).drew | exact HSB.out _ ((On.refl g w6).drew.alloc _) | exact HSB.out _ hon4 | refine HKF.out _ _ _ ?_ | fail "x")); done))
      (first
        | (go_at_call 82; refine (of_ w1 g _ _ _ _ [⟨#[97, 97]⟩, ⟨#[122, 122]⟩, ⟨#[98, 98]⟩] _ _ (HD6.out.drew.alloc _) (by omega) (lit_str _ 3 rfl rfl) (by omega) (by omega) (show g < w6.heap.size by omega)).mono ?_; rintro e w3 ⟨s, rfl, hm3, hd3, hon3⟩; have hon4 : On g w6 w3 := ((On.refl g w6).drew.alloc _).trans hon3; have hsz3 : s.size ≤ 6 := (by simp at hm3; rcases hm3 with rfl | rfl | rfl <;> decide); have HF3 := Lib.hid (hon4.blk HF6.out (by omega)); have z0 := (blk_cl (k := 0) HF3.out rfl).1; have z0' := (blk_cl (k := 0) HF3.out rfl).2; have z1 := (blk_cl (k := 1) HF3.out rfl).1; have z1' := (blk_cl (k := 1) HF3.out rfl).2)
        | fail "no arm")
    go_wp2_with fail
    have hF := set21 (u := .slice A2 n2 c2) (set20 (u := .int .i64 v) HF3.out)
    have e0 := (blk_cl (k := 0) hF rfl).1
    have e1 := (blk_cl (k := 1) hF rfl).1
    have hS3 := HS6.out.on hon4 (by omega)
    have hC3 := HC6.out.on hon4 (by omega)
    have hB3 := HB1.out.trans (((HON6.out.trans hon4).low (by omega)).mono (by omega))
    have hbl := (hB3.setCell (p := ⟨w.heap.size, 0, none⟩) (Nat.le_refl _) (.int .i64 v)).setCell (p := ⟨w.heap.size, 1, none⟩) (Nat.le_refl _) (.slice A2 n2 c2)
    exact bodyPost_ret (v := .tuple #[.agg #[.int .i64 v, .slice A2 n2 c2], .slice B2 m2 d2, .string s]) (by simp [results, Try.results38, go_sem, e0, e1]) rfl
      ⟨⟨v, ss⟩, _, _, _, _, _, _, cs, s, rfl, ((hS3.setLow (by omega)).setLow (by omega)).lower (by omega), HOK.out, h1, h6, ((hC3.setLow (by omega)).setLow (by omega)).lower (by omega), HOC.out, hmd, hm9, hsz3, hbl⟩
  · have hz2 : (v6 == 0) = false := by rw [beq_eq_false_iff_ne]; exact hz
    go_wp2_with fail
    go_region_held3 (fun w' => w'.cell? ⟨w2.heap.size, 0, none⟩ = some (.int .i64 v) ∧ w'.cell? ⟨w2.heap.size, 1, none⟩ = some (.slice A2 n2 c2))
      (((repeat (first | exact HSB.out _ (On.refl _ _).drew | exact HSB.out _ ((On.refl g w6).drew.alloc _) | exact HSB.out _ hon4 | refine HKF.out _ _ _ ?_ | fail "x")); done))
      (first
        | (go_at_call 83; refine (l91Name_any w1 g _ _ HD6.out.drew (by omega)).mono ?_; rintro e w3 ⟨s, rfl, hsz3, hd3, hon3⟩; have hon4 : On g w6 w3 := (On.refl g w6).drew.trans hon3; have HF3 := Lib.hid (hon4.blk HF6.out (by omega)); have z0 := (blk_cl (k := 0) HF3.out rfl).1; have z0' := (blk_cl (k := 0) HF3.out rfl).2; have z1 := (blk_cl (k := 1) HF3.out rfl).1; have z1' := (blk_cl (k := 1) HF3.out rfl).2)
        | fail "no arm")
    go_wp2_with fail
    have hF := set21 (u := .slice A2 n2 c2) (set20 (u := .int .i64 v) HF3.out)
    have e0 := (blk_cl (k := 0) hF rfl).1
    have e1 := (blk_cl (k := 1) hF rfl).1
    have hS3 := HS6.out.on hon4 (by omega)
    have hC3 := HC6.out.on hon4 (by omega)
    have hB3 := HB1.out.trans (((HON6.out.trans hon4).low (by omega)).mono (by omega))
    have hbl := (hB3.setCell (p := ⟨w.heap.size, 0, none⟩) (Nat.le_refl _) (.int .i64 v)).setCell (p := ⟨w.heap.size, 1, none⟩) (Nat.le_refl _) (.slice A2 n2 c2)
    exact bodyPost_ret (v := .tuple #[.agg #[.int .i64 v, .slice A2 n2 c2], .slice B2 m2 d2, .string s]) (by simp [results, Try.results38, go_sem, e0, e1]) rfl
      ⟨⟨v, ss⟩, _, _, _, _, _, _, cs, s, rfl, ((hS3.setLow (by omega)).setLow (by omega)).lower (by omega), HOK.out, h1, h6, ((hC3.setLow (by omega)).setLow (by omega)).lower (by omega), HOC.out, hmd, hm9, hsz3, hbl⟩
end Go.Proofs.Ytakeijgoonagcaa
