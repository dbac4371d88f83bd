/- Contracts of functions and plain lemmas, joined. No condition but those that each states. -/
import Derived.Test.YtakeijgoonagcaaShelf
import Derived.Sort.OwnSorted
import Derived.Lib.OwnBridge
import Derived.Shelf.Sort.Plain
import Derived.Shelf.Slices.CompactS
import Derived.Shelf.SlicesE.DeleteFunc
import Derived.Test.YtakeijgoonagcaaZN
import Derived.Test.YtakeijgoonagcaaZB
import Derived.Test.YtakeijgoonagcaaZC
import Derived.Test.YtakeijgoonagcaaZA

/- What comes behind a step, and behind it when closed steps are away. No program in sight. -/
namespace Go.Proofs.Ytakeijgoonagcaa

def Edge (ss : List Step) (n a : Str) : Prop := ∃ s ∈ ss, s.name = n ∧ a ∈ s.after
def ReachN (ss : List Step) : Nat → Str → Str → Prop
  | 0, n, m => Edge ss n m
  | k + 1, n, m => ∃ a, Edge ss n a ∧ ReachN ss k a m
/-- A step comes after another one, directly or by others. -/
def Reach (ss : List Step) (n m : Str) : Prop := ∃ k, ReachN ss k n m
theorem Reach.one {ss : List Step} {n m : Str} (h : Edge ss n m) : Reach ss n m := ⟨0, h⟩
theorem Reach.more {ss : List Step} {n a m : Str} (h : Edge ss n a) (k : Reach ss a m) : Reach ss n m := by
  obtain ⟨j, hj⟩ := k
  exact ⟨j + 1, a, h, hj⟩
theorem reach_iff {ss : List Step} {n m : Str} : Reach ss n m ↔ ∃ a, Edge ss n a ∧ (a = m ∨ Reach ss a m) := by
  constructor
  · rintro ⟨k, hk⟩
    cases k with
    | zero => exact ⟨m, hk, .inl rfl⟩
    | succ k => obtain ⟨a, h1, h2⟩ := hk; exact ⟨a, h1, .inr ⟨k, h2⟩⟩
  · rintro ⟨a, h1, rfl | h2⟩
    · exact .one h1
    · exact .more h1 h2

theorem woAfter_iff {c a : Str} {gone after : List Str} : a ∈ woAfter c gone after ↔ (a ∈ after ∧ a ≠ c) ∨ (c ∈ after ∧ a ∈ gone) := by
  unfold woAfter
  by_cases h : c ∈ after
  · rw [if_pos (hasB_true.2 h), putAll_mem, putAll_mem]
    unfold notName
    simp [h]
  · rw [if_neg (fun e => h (hasB_true.1 e))]
    constructor
    · intro ha
      exact .inl ⟨ha, fun e => h (e ▸ ha)⟩
    · rintro (⟨ha, _⟩ | ⟨hc, _⟩)
      · exact ha
      · exact absurd hc h
theorem edge_wo {ss : List Step} {c n a : Str} : Edge (woL ss c) n a ↔ n ≠ c ∧ ((Edge ss n a ∧ a ≠ c) ∨ (Edge ss n c ∧ a ∈ goneOf ss c)) := by
  unfold Edge woL
  constructor
  · rintro ⟨s, hs, rfl, ha⟩
    obtain ⟨t, ht, rfl⟩ := List.mem_map.1 hs
    obtain ⟨ht, hne⟩ := List.mem_filter.1 ht
    have hne : t.name ≠ c := by simpa using hne
    refine ⟨hne, ?_⟩
    rcases woAfter_iff.1 (show a ∈ woAfter c (goneOf ss c) t.after from ha) with ⟨h1, h2⟩ | ⟨h1, h2⟩
    · exact .inl ⟨⟨t, ht, rfl, h1⟩, h2⟩
    · exact .inr ⟨⟨t, ht, rfl, h1⟩, h2⟩
  · rintro ⟨hn, h⟩
    have key : ∀ t ∈ ss, t.name = n → a ∈ woAfter c (goneOf ss c) t.after → ∃ s ∈ (ss.filter fun s => !decide (s.name = c)).map (woStep c (goneOf ss c)), s.name = n ∧ a ∈ s.after := fun t ht e ha =>
      ⟨woStep c (goneOf ss c) t, List.mem_map.2 ⟨t, List.mem_filter.2 ⟨ht, by simp [e, hn]⟩, rfl⟩, e, ha⟩
    rcases h with ⟨⟨t, ht, e, h1⟩, h2⟩ | ⟨⟨t, ht, e, h1⟩, h2⟩
    · exact key t ht e (woAfter_iff.2 (.inl ⟨h1, h2⟩))
    · exact key t ht e (woAfter_iff.2 (.inr ⟨h1, h2⟩))
theorem edge_plc {ss : List Step} (hn : (namesOf ss).Nodup) {n a : Str} : Edge ss n a ↔ hasB (namesOf ss) n = true ∧ a ∈ (nth ss (plc ss n)).after := by
  constructor
  · rintro ⟨s, hs, rfl, ha⟩
    have hm : hasB (namesOf ss) s.name = true := hasB_true.2 (List.mem_map.2 ⟨s, hs, rfl⟩)
    obtain ⟨h1, _, h3⟩ := plc_ex hm
    obtain ⟨j, hj, rfl⟩ := nth_of_mem hs
    have : j = plc ss (nth ss j).name := nodup_at hn (by rw [namesOf_len]; exact hj) (by rw [namesOf_len]; exact h1) (by rw [namesOf_at hj, namesOf_at h1, h3])
    refine ⟨hm, ?_⟩
    rw [← this]; exact ha
  · rintro ⟨hm, ha⟩
    obtain ⟨h1, _, h3⟩ := plc_ex hm
    exact ⟨_, mem_nth h1, h3, ha⟩
theorem edge_gone {ss : List Step} (hn : (namesOf ss).Nodup) {c a : Str} (hc : hasB (namesOf ss) c = true) : Edge ss c a ↔ a ∈ goneOf ss c := by
  rw [edge_plc hn]
  exact ⟨fun h => h.2, fun h => ⟨hc, h⟩⟩
theorem reach_of_wo {ss : List Step} (hn : (namesOf ss).Nodup) {c : Str} (hc : hasB (namesOf ss) c = true) : ∀ (k : Nat) (n m : Str), ReachN (woL ss c) k n m → Reach ss n m := by
  have one : ∀ n a, Edge (woL ss c) n a → Reach ss n a := fun n a h => by
    obtain ⟨_, ⟨h1, _⟩ | ⟨h1, h2⟩⟩ := edge_wo.1 h
    · exact .one h1
    · exact .more h1 (.one ((edge_gone hn hc).2 h2))
  have tr : ∀ k n a m, ReachN ss k n a → Reach ss a m → Reach ss n m := by
    intro k
    induction k with
    | zero => exact fun n a m h1 h2 => .more h1 h2
    | succ k ih =>
      rintro n a m ⟨x, h1, h2⟩ h3
      exact .more h1 (ih x a m h2 h3)
  intro k
  induction k with
  | zero => exact fun n m h => one n m h
  | succ k ih =>
    rintro n m ⟨a, h1, h2⟩
    obtain ⟨j, hj⟩ := one n a h1
    exact tr j n a m hj (ih a m h2)
theorem reach_to_wo {ss : List Step} (hn : (namesOf ss).Nodup) {c : Str} (hc : hasB (namesOf ss) c = true) (hcc : ¬ Edge ss c c) {m : Str} (hm : m ≠ c) :
    ∀ (k : Nat) (n : Str), ReachN ss k n m → (n ≠ c → Reach (woL ss c) n m) ∧ (n = c → ∀ x, x ≠ c → Edge ss x c → Reach (woL ss c) x m) := by
  intro k
  induction k with
  | zero =>
    intro n h
    refine ⟨fun h1 => .one (edge_wo.2 ⟨h1, .inl ⟨h, hm⟩⟩), fun e x hx hxc => ?_⟩
    subst e
    exact .one (edge_wo.2 ⟨hx, .inr ⟨hxc, (edge_gone hn hc).1 h⟩⟩)
  | succ k ih =>
    rintro n ⟨a, h1, h2⟩
    obtain ⟨i1, i2⟩ := ih a h2
    refine ⟨fun hnc => ?_, fun e x hx hxc => ?_⟩
    · by_cases hac : a = c
      · exact i2 hac n hnc (hac ▸ h1)
      · exact .more (edge_wo.2 ⟨hnc, .inl ⟨h1, hac⟩⟩) (i1 hac)
    · subst e
      have hac : a ≠ n := fun e => hcc (e ▸ h1)
      exact .more (edge_wo.2 ⟨hx, .inr ⟨hxc, (edge_gone hn hc).1 h1⟩⟩) (i1 hac)
theorem gf_reach : ∀ (names : List Str) (ss : List Step), (namesOf ss).Nodup → (∀ x, ¬ Reach ss x x) → ∀ n m, n ∉ names → m ∉ names → (Reach (gfAll ss names) n m ↔ Reach ss n m)
  | [], _, _, _, _, _, _, _ => Iff.rfl
  | c :: names, ss, hn, hi, n, m, hnn, hmn => by
    have h1 : n ≠ c := fun e => hnn (by rw [e]; simp)
    have h2 : m ≠ c := fun e => hmn (by rw [e]; simp)
    have h3 : n ∉ names := fun e => hnn (List.mem_cons_of_mem _ e)
    have h4 : m ∉ names := fun e => hmn (List.mem_cons_of_mem _ e)
    show Reach (gfAll (gfStep ss c) names) n m ↔ _
    cases hc : hasB (namesOf ss) c
    · have e : gfStep ss c = ss := if_neg (by rw [hc]; simp)
      rw [e]
      exact gf_reach names ss hn hi n m h3 h4
    · have e : gfStep ss c = woL ss c := if_pos hc
      rw [e]
      have hn' : (namesOf (woL ss c)).Nodup := by rw [wo_names]; exact hn.sublist List.filter_sublist
      have hi' : ∀ x, ¬ Reach (woL ss c) x x := fun x ⟨k, hk⟩ => hi x (reach_of_wo hn hc k x x hk)
      rw [gf_reach names _ hn' hi' n m h3 h4]
      constructor
      · rintro ⟨k, hk⟩
        exact reach_of_wo hn hc k n m hk
      · rintro ⟨k, hk⟩
        exact (reach_to_wo hn hc (fun e => hi c (.one e)) h2 k n hk).1 h1

/-! ### The order -/
theorem ordTo_ordB {ss : List Step} (hn : (namesOf ss).Nodup) : ∀ k, ordB ss (ordTo ss k) = true
  | 0 => rfl
  | k + 1 => by
    have ih := ordTo_ordB hn k
    rw [ordTo]
    cases h : rdyL ss (ordTo ss k) with
    | nil => rw [ordStep_nil h]; exact ih
    | cons x r =>
      rw [ordStep_cons h]
      exact ord_snoc hn ih (hasB_true.2 (by rw [h]; simp))
theorem ord_at {ss : List Step} (hn : (namesOf ss).Nodup) {i : Nat} (hi : i < (ordL ss).length) {a : Str} (h : Edge ss (nth (ordL ss) i) a) : a ∈ (ordL ss).take i := by
  have h1 := allN_iff.1 (ordTo_ordB hn ss.length) i hi
  unfold ordAt at h1
  simp only [Bool.and_eq_true] at h1
  exact haveB_iff.1 h1.2 a ((edge_plc hn).1 h).2
theorem ord_new {ss : List Step} (hn : (namesOf ss).Nodup) {i : Nat} (hi : i < (ordL ss).length) : nth (ordL ss) i ∉ (ordL ss).take i := by
  have h1 := allN_iff.1 (ordTo_ordB hn ss.length) i hi
  unfold ordAt at h1
  simp only [Bool.and_eq_true, Bool.not_eq_true'] at h1
  exact hasB_false.1 h1.1.2
theorem ord_down {ss : List Step} (hn : (namesOf ss).Nodup) {m : Str} : ∀ (k i : Nat), i < (ordL ss).length → ReachN ss k (nth (ordL ss) i) m → m ∈ (ordL ss).take i
  | 0, i, hi, h => ord_at hn hi h
  | k + 1, i, hi, ⟨a, h1, h2⟩ => by
    have ha := ord_at hn hi h1
    obtain ⟨j, hj, he⟩ := nth_of_mem ha
    rw [List.length_take] at hj
    have e : nth ((ordL ss).take i) j = nth (ordL ss) j := by rw [nth_eq (by rw [List.length_take]; exact hj), nth_eq (by omega), List.getElem_take]
    rw [e] at he
    subst he
    have := ord_down hn k j (by omega) h2
    exact List.mem_of_mem_take (by rw [List.take_take, Nat.min_eq_left (by omega)]; exact this : m ∈ ((ordL ss).take i).take j)
theorem ord_has {ss : List Step} (_ : (namesOf ss).Nodup) (hc : (ordL ss).length = ss.length) {x : Str} (hx : x ∈ namesOf ss) : x ∈ ordL ss := by
  obtain ⟨h1, h2⟩ := ordTo_nodup ss ss.length
  apply Classical.byContradiction
  intro hno
  have h3 := nodup_le (xs := x :: ordL ss) (ys := namesOf ss) (List.nodup_cons.2 ⟨hno, h1⟩) (fun y hy => by
    rcases List.mem_cons.1 hy with rfl | hy
    · exact hx
    · exact h2 y hy)
  rw [List.length_cons, namesOf_len] at h3
  omega
theorem edge_name {ss : List Step} {n a : Str} (h : Edge ss n a) : n ∈ namesOf ss := by
  obtain ⟨s, hs, rfl, _⟩ := h
  exact List.mem_map.2 ⟨s, hs, rfl⟩
theorem flow_acyc {f : Flow} (h : flowB f = true) : ∀ x, ¬ Reach f.steps x x := by
  intro x ⟨k, hk⟩
  have hn := flow_nodup h
  have hc := (flowB_iff.1 h).2.2.2
  have hx : x ∈ namesOf f.steps := by
    cases k with
    | zero => exact edge_name hk
    | succ k => obtain ⟨a, h1, _⟩ := hk; exact edge_name h1
  obtain ⟨i, hi, rfl⟩ := nth_of_mem (ord_has hn hc hx)
  exact ord_new hn hi (ord_down hn k i hi hk)

/-! ### What is behind -/
def bhSt (ss : List Step) (S : List Str) (n : Str) : List Str := if (nth ss (plc ss n)).after.any (hasB S) = true then n :: S else S
def bhTo (ss : List Step) (name : Str) (ord : List Str) (k : Nat) : List Str := (ord.take k).foldl (bhSt ss) [name]
def bhL (ss : List Step) (name : Str) : List Str := (namesOf ss).filter fun n => hasB (bhTo ss name (ordL ss) (ordL ss).length) n && !decide (n = name)
theorem bhTo_succ {ss : List Step} {name : Str} {ord : List Str} {k : Nat} (hk : k < ord.length) : bhTo ss name ord (k + 1) = bhSt ss (bhTo ss name ord k) (nth ord k) := by
  unfold bhTo; rw [take_nth hk, List.foldl_append]; rfl
theorem bh_inv {f : Flow} (h : flowB f = true) (name : Str) : ∀ k, k ≤ (ordL f.steps).length → ∀ x, x ∈ bhTo f.steps name (ordL f.steps) k ↔ x = name ∨ (x ∈ (ordL f.steps).take k ∧ Reach f.steps x name)
  | 0, _, x => by simp [bhTo]
  | k + 1, hk, x => by
    have hn := flow_nodup h
    have ih := bh_inv h name k (by omega)
    have hlt : k < (ordL f.steps).length := by omega
    have hnm : nth (ordL f.steps) k ∈ namesOf f.steps := (ordTo_nodup f.steps f.steps.length).2 _ (mem_nth hlt)
    have hr : (nth f.steps (plc f.steps (nth (ordL f.steps) k))).after.any (hasB (bhTo f.steps name (ordL f.steps) k)) = true ↔ Reach f.steps (nth (ordL f.steps) k) name := by
      rw [List.any_eq_true, reach_iff]
      constructor
      · rintro ⟨a, ha, hb⟩
        have he : Edge f.steps (nth (ordL f.steps) k) a := (edge_plc hn).2 ⟨hasB_true.2 hnm, ha⟩
        refine ⟨a, he, ?_⟩
        rcases (ih a).1 (hasB_true.1 hb) with e | ⟨_, e⟩
        · exact .inl e
        · exact .inr e
      · rintro ⟨a, he, hb⟩
        refine ⟨a, ((edge_plc hn).1 he).2, hasB_true.2 ((ih a).2 ?_)⟩
        rcases hb with e | e
        · exact .inl e
        · exact .inr ⟨ord_at hn hlt he, e⟩
    rw [bhTo_succ hlt, take_nth hlt]
    unfold bhSt
    by_cases hh : (nth f.steps (plc f.steps (nth (ordL f.steps) k))).after.any (hasB (bhTo f.steps name (ordL f.steps) k)) = true
    · rw [if_pos hh, List.mem_cons, ih, List.mem_append, List.mem_singleton]
      constructor
      · rintro (rfl | e | ⟨e1, e2⟩)
        · exact .inr ⟨.inr rfl, hr.1 hh⟩
        · exact .inl e
        · exact .inr ⟨.inl e1, e2⟩
      · rintro (e | ⟨e | e, e2⟩)
        · exact .inr (.inl e)
        · exact .inr (.inr ⟨e, e2⟩)
        · exact .inl e
    · rw [if_neg hh, ih, List.mem_append, List.mem_singleton]
      constructor
      · rintro (e | ⟨e1, e2⟩)
        · exact .inl e
        · exact .inr ⟨.inl e1, e2⟩
      · rintro (e | ⟨e | e, e2⟩)
        · exact .inl e
        · exact .inr ⟨e, e2⟩
        · subst e; exact absurd (hr.2 e2) hh
theorem bhL_eq {f : Flow} (h : flowB f = true) (name : Str) (x : Str) (hx : x ∈ namesOf f.steps) : (hasB (bhTo f.steps name (ordL f.steps) (ordL f.steps).length) x && !decide (x = name)) = true ↔ x ≠ name ∧ Reach f.steps x name := by
  have hn := flow_nodup h
  have hc := (flowB_iff.1 h).2.2.2
  rw [Bool.and_eq_true, hasB_true, bh_inv h name _ (Nat.le_refl _), List.take_length]
  have := ord_has hn hc hx
  by_cases e : x = name <;> simp [e, this]
/-- What was behind stays behind. -/
theorem gb_same {f : Flow} {gs : List Guard} {vs : List Int} (h : gfB f gs vs = true) {n : Str} (hn : n ∉ closL gs vs) :
    (bhL f.steps n).filter (fun x => !hasB (closL gs vs) x) = bhL (gfF f gs vs).steps n := by
  have e := gfF_yes h
  have h' := h
  unfold gfB at h'
  simp only [Bool.and_eq_true] at h'
  obtain ⟨h1, _, _, h4⟩ := h'
  have hnd := flow_nodup h1
  have hac := flow_acyc h1
  rw [e]
  show _ = bhL (gfAll f.steps (closL gs vs)) n
  unfold bhL
  rw [gf_names, List.filter_filter, List.filter_filter]
  refine List.filter_congr fun x hx => ?_
  by_cases hxc : x ∈ closL gs vs
  · rw [hasB_true.2 hxc]; simp
  · have hb := hasB_false.2 hxc
    have hx2 : x ∈ namesOf (gfAll f.steps (closL gs vs)) := by rw [gf_names]; exact List.mem_filter.2 ⟨hx, by rw [hb]; rfl⟩
    have k1 := bhL_eq h1 n x hx
    have k2 := bhL_eq (f := ⟨f.ver, gfAll f.steps (closL gs vs)⟩) h4 n x hx2
    rw [hb]
    simp only [Bool.not_false, Bool.true_and, Bool.and_true]
    rw [Bool.eq_iff_iff]
    refine k1.trans (Iff.trans ?_ k2.symm)
    rw [gf_reach _ _ hnd hac x n hxc hn]
end Go.Proofs.Ytakeijgoonagcaa

/- Names sorted, compacted and struck by the library, on a row of the call's own. -/
namespace Go.Proofs.Ytakeijgoonagcaa
open Go.RowKit

/-- A slice that owns its row lies in a block of its own. -/
theorem row_at {w : World} {base b n c : Nat} {e : TypeId} {xs : List Value} (h : w.ownsRow base e 1 (.slice (some ⟨b, 0, none⟩) n c) n xs) :
    ∃ cur, base ≤ b ∧ w.heap[b]? = some (.cells cur e (0, 0)) ∧ n ≤ c ∧ c ≤ maxLen ∧ cur.size = c * 1 ∧ cur.toList.take (n * 1) = xs := by
  rcases h.2 with ⟨e0, _⟩ | ⟨g, cap, cur, e0, hb, hg, hn, hm, hs, ht⟩
  · cases e0
  · injection e0 with e1 _ e3
    injection e1 with e1
    injection e1 with e1
    subst e1; subst e3
    exact ⟨cur, hb, hg, hn, hm, hs, ht⟩
theorem row_holds {w : World} {base b n c : Nat} {e : TypeId} {L : List (List UInt8)} (h : w.ownsRow base e 1 (.slice (some ⟨b, 0, none⟩) n c) n (L.map encStr)) : Sort.Holds encStr w b 0 L.toArray ∧ L.length = n := by
  have hl : L.length = n := by simpa using h.1
  obtain ⟨cur, _, hb, _, _, _, ht⟩ := row_at h
  refine ⟨holds_of_block hb ?_, hl⟩
  rw [hl]; simpa using ht
theorem grown_put {w : World} {b q : Nat} (d : Array (List UInt8)) : w.grownBy (Sort.putRow encStr (Sort.ahead w q) b 0 d) (some b) := by
  refine ⟨rfl, rfl, rfl, by simp [Sort.putRow, Sort.mapBlock, Sort.ahead], fun k hk hne => ?_⟩
  have : b ≠ k := fun e => hne (by rw [e])
  simp [Sort.putRow, Sort.mapBlock, Sort.ahead, Array.getElem?_modify, this]

def sortL (L : List (List UInt8)) : List (List UInt8) := L.mergeSort fun x y => decide (x ≤ y)
theorem sortL_len (L : List (List UInt8)) : (sortL L).length = L.length := List.length_mergeSort L
theorem sortRow_str (b n c base : Nat) (L : List (List UInt8)) (w : World) (hrow : w.ownsRow base 9 1 (.slice (some ⟨b, 0, none⟩) n c) n (L.map encStr)) (hn : n ≤ 1048576) :
    Calls Try.prog 149 #[.slice (some ⟨b, 0, none⟩) n c] w fun e w' => e = .returned (.tuple #[]) ∧ w'.ownsRow base 9 1 (.slice (some ⟨b, 0, none⟩) n c) n ((sortL L).map encStr) ∧ w.grownBy w' (some b) := by
  obtain ⟨hH, hl⟩ := row_holds hrow
  obtain ⟨cur, hbase, hb, h1, h2, h3, _⟩ := row_at hrow
  subst hl
  refine (Any.slices_Sort_string Try.lays190 b 0 c L w hH (heap_lt hb) (by omega)).mono ?_
  rintro e w' ⟨rfl, q, os, rfl⟩
  exact ⟨rfl, ownsRow_sorted (sortL_len L) hbase hb h1 h2 h3, grownBy_sorted _⟩
theorem compactRow_str (b n c base : Nat) (L : List (List UInt8)) (w : World) (hrow : w.ownsRow base 9 1 (.slice (some ⟨b, 0, none⟩) n c) n (L.map encStr)) (hn : n ≤ 1048576) :
    Calls Try.prog 150 #[.slice (some ⟨b, 0, none⟩) n c] w fun e w' => e = .returned (.slice (some ⟨b, 0, none⟩) (Lib.compact L).length c) ∧ w'.ownsRow base 9 1 (.slice (some ⟨b, 0, none⟩) (Lib.compact L).length c) (Lib.compact L).length ((Lib.compact L).map encStr) ∧ w.grownBy w' (some b) := by
  obtain ⟨hH, hl⟩ := row_holds hrow
  obtain ⟨cur, hbase, hb, h1, h2, h3, _⟩ := row_at hrow
  subst hl
  have hle := Lib.compact_length_le L
  refine (Try.slices_Compact_string b 0 c L w hH (by omega) h1).mono ?_
  rintro e w' ⟨rfl, q, rfl⟩
  refine ⟨rfl, ?_, grown_put _⟩
  have hc := Lib.ownsRow_putRow (q := q) (k := (Lib.compact L).length) (ys := Lib.compact L ++ List.replicate (L.length - (Lib.compact L).length) []) hrow (by simp; omega) hle
  rw [List.take_left] at hc
  exact hc

/-- The closure that strikes a name. -/
theorem drop1_any (bx : Nat) (x nm : Str) (w : World) (hb : w.cell? ⟨bx, 0, none⟩ = some (.string nm)) :
    Calls Try.prog 148 #[.string x, .pointer (some ⟨bx, 0, none⟩)] w fun e w' => e = .returned (.bool (decide (x = nm))) ∧ ∃ q, w' = w.drewN q := by
  have hq : (x.toList == nm.toList) = decide (x = nm) := by
    by_cases h : x = nm
    · rw [seq_t h]; simp [h]
    · rw [seq_f h]; simp [h]
  go_enter Try.func148, Try.ntmps148
  go_wp2
  go_ret
  exact ⟨rfl, 0, rfl⟩
def notL (nm : Str) (L : List (List UInt8)) : List (List UInt8) := L.filter fun l => !decide (ofL l = nm)
theorem delRow_str (b n c base bx : Nat) (nm : Str) (L : List (List UInt8)) (w : World) (hrow : w.ownsRow base 9 1 (.slice (some ⟨b, 0, none⟩) n c) n (L.map encStr)) (hn : n ≤ 1048576) (hb : w.cell? ⟨bx, 0, none⟩ = some (.string nm)) (hbx : bx < w.heap.size) (hne : bx ≠ b) :
    Calls Try.prog 147 #[.slice (some ⟨b, 0, none⟩) n c, .func (.func 148) #[] #[.pointer (some ⟨bx, 0, none⟩)]] w fun e w' => e = .returned (.slice (some ⟨b, 0, none⟩) (notL nm L).length c) ∧ w'.ownsRow base 9 1 (.slice (some ⟨b, 0, none⟩) (notL nm L).length c) (notL nm L).length ((notL nm L).map encStr) ∧ w.grownBy w' (some b) := by
  obtain ⟨hH, hl⟩ := row_holds hrow
  obtain ⟨cur, hbase, hb0, h1, h2, h3, _⟩ := row_at hrow
  subst hl
  have eg : ∀ args w, (callFunc 148 args).run Try.prog w = .ok (.enter 148 args) w := enters_of Try.func148 (by kernel_rfl) rfl
  have hp : PredAt Try.prog 148 #[.pointer (some ⟨bx, 0, none⟩)] encStr (fun l => decide (ofL l = nm)) w := fun W x hbw =>
    drop1_any bx (ofL x) nm W ((hbw.cell (p := ⟨bx, 0, none⟩) hbx).trans hb)
  have hpo : PredOver Try.prog 148 #[.pointer (some ⟨bx, 0, none⟩)] encStr (fun l => decide (ofL l = nm)) b 0 L.toArray.size w := fun q os dk x _ => by
    refine drop1_any bx (ofL x) nm _ ?_
    have := (grownBy_sorted (w := w) (g := b) (n := q) (os := os) dk).cell (a := ⟨bx, 0, none⟩) hb (by intro e; injection e with e; exact hne e)
    exact this
  refine (Try.slices_DeleteFunc encStr (fun _ => rfl) (fun l => decide (ofL l = nm)) 148 #[.pointer (some ⟨bx, 0, none⟩)] eg [] Try.zeroValue9 b 0 c L.toArray w hp hpo hH (by simp; omega) (by simpa using h1)).mono ?_
  rintro e w' ⟨rfl, q, rfl⟩
  have e1 : (L.toArray.toList.filter fun x => !decide (ofL x = nm)) = notL nm L := by simp [notL]
  have e2 : L.toArray.size = L.length := by simp
  rw [e1, e2]
  have hle : (notL nm L).length ≤ L.length := List.length_filter_le _ _
  refine ⟨rfl, ?_, grown_put _⟩
  have hc := Lib.ownsRow_putRow (q := q) (k := (notL nm L).length) (ys := notL nm L ++ List.replicate (L.length - (notL nm L).length) []) hrow (by simp; omega) hle
  rw [List.take_left] at hc
  exact hc

/-- Strings as bytes. -/
def ofS (xs : List Str) : List (List UInt8) := xs.map fun s => s.data.toList
theorem ofS_enc (xs : List Str) : (ofS xs).map encStr = xs.map Value.string := Lib.map_encStr xs
theorem ofS_not (nm : Str) (xs : List Str) : notL nm (ofS xs) = ofS (notName nm xs) := by
  unfold notL ofS notName
  rw [List.filter_map]
  congr 1
theorem ofS_app (xs ys : List Str) : ofS (xs ++ ys) = ofS xs ++ ofS ys := List.map_append
theorem ofL_enc (L : List (List UInt8)) : L.map encStr = (L.map ofL).map Value.string := by
  rw [List.map_map]; rfl
theorem drop_list {name : Str} {gone after : List Str} (h : hasB after name = true) : (Lib.compact (sortL (ofS (notName name after ++ gone)))).map ofL = woAfter name gone after := by
  have := drop_after (gone := gone) h
  unfold sortL ofS
  rw [← this]
  congr 4
  funext s
  exact (Lib.toList_data s).symm
end Go.Proofs.Ytakeijgoonagcaa

/- A row of steps of the call's own: one step struck, one step's list written. -/
namespace Go.Proofs.Ytakeijgoonagcaa
open Go.RowKit

theorem flat_take {α β : Type} {f : α → List β} {k : Nat} (hf : ∀ a, (f a).length = k) : ∀ (xs : List α) (i : Nat), (xs.flatMap f).take (i * k) = (xs.take i).flatMap f
  | [], i => by simp
  | x :: xs, 0 => by simp
  | x :: xs, i + 1 => by
    rw [List.flatMap_cons, List.take_append, hf, Nat.succ_mul, List.take_of_length_le (by rw [hf]; omega), show i * k + k - k = i * k by omega, flat_take hf xs i]
    rfl
theorem flat_drop {α β : Type} {f : α → List β} {k : Nat} (hf : ∀ a, (f a).length = k) : ∀ (xs : List α) (i : Nat), (xs.flatMap f).drop (i * k) = (xs.drop i).flatMap f
  | [], i => by simp
  | x :: xs, 0 => by simp
  | x :: xs, i + 1 => by
    rw [List.flatMap_cons, List.drop_append, hf, Nat.succ_mul, List.drop_of_length_le (by rw [hf]; omega), show i * k + k - k = i * k by omega, flat_drop hf xs i]
    rfl
theorem blk_setCells {b : Nat} {t : TypeId} {fr : Nat × Nat} : ∀ (vs : List Value) (o : Nat) (w : World) (cs : Array Value), w.heap[b]? = some (.cells cs t fr) →
    ∃ cs', (w.setCells b o vs).heap[b]? = some (.cells cs' t fr) ∧ cs'.size = cs.size ∧ ∀ j, j < cs.size → cs'[j]? = if o ≤ j ∧ j < o + vs.length then vs[j - o]? else cs[j]?
  | [], o, w, cs, h => ⟨cs, h, rfl, fun j hj => by rw [if_neg (by simp only [List.length_nil]; omega)]⟩
  | v :: vs, o, w, cs, h => by
    obtain ⟨cs', h1, h2, h3⟩ := blk_setCells vs (o + 1) (w.setCell ⟨b, o, none⟩ v) _ (set_at (o := o) (u := v) h)
    rw [Array.size_setIfInBounds] at h2 h3
    refine ⟨cs', h1, h2, fun j hj => ?_⟩
    rw [h3 j hj, Array.getElem?_setIfInBounds]
    by_cases h4 : j = o
    · subst h4
      rw [if_neg (by omega), if_pos rfl, if_pos hj, if_pos (by simp), Nat.sub_self]
      rfl
    · by_cases h5 : o ≤ j ∧ j < o + (v :: vs).length
      · have h6 : j < o + 1 + vs.length := by have := h5.2; simp at this; omega
        rw [if_pos ⟨by omega, h6⟩, if_pos h5]
        rw [show j - o = (j - (o + 1)) + 1 by omega]
        rfl
      · have h6 : ¬ (o + 1 ≤ j ∧ j < o + 1 + vs.length) := by intro e; apply h5; simp; omega
        rw [if_neg h6, if_neg (by omega), if_neg h5]
theorem grown_setCells {b : Nat} (vs : List Value) : ∀ (o : Nat) (w0 w : World), w0.grownBy w (some b) → w0.grownBy (w.setCells b o vs) (some b) := by
  induction vs with
  | nil => exact fun o w0 w h => h
  | cons v vs ih =>
    intro o w0 w h
    refine ih (o + 1) w0 _ ⟨h.os, h.tape, h.output, by simpa [World.setCell] using h.size, fun k hk hne => ?_⟩
    exact (Below.heap_setCell _ _ _ _ (by intro e; exact hne (by rw [e]))).trans (h.block k hk hne)
theorem SRow.form {w : World} {base n c : Nat} {A : Option Addr} {ss : List Step} (h : SRow w base (.slice A n c) n ss) (hn : 0 < n) : ∃ b cur, A = some ⟨b, 0, none⟩ ∧ base ≤ b ∧ w.heap[b]? = some (.cells cur 75 (0, 0)) ∧ n ≤ c ∧ c ≤ maxLen ∧ cur.size = c * 3 := by
  obtain ⟨ps, _, h1, _⟩ := h
  rcases h1.2 with ⟨e0, h0⟩ | ⟨g, cap, cur, e0, hb, hg, hn, hm, hs, ht⟩
  · omega
  · injection e0 with e1 _ e3
    subst e3
    exact ⟨g, cur, e1, hb, hg, hn, hm, hs⟩

theorem SRow.step_at {w : World} {base b n c k : Nat} {ss : List Step} (h : SRow w base (.slice (some ⟨b, 0, none⟩) n c) n ss) (hk : k < n) :
    ∃ (A' : Option Addr) (n' c' : Nat), (w.cell? ⟨b, k * 3, none⟩ = some (.string (nth ss k).name) ∧ w.cell? ⟨b, k * 3 + 1, none⟩ = some (.slice A' n' c') ∧ w.cell? ⟨b, k * 3 + 2, none⟩ = some (.bool (nth ss k).undo)) ∧
      SStr w base A' n' (nth ss k).after ∧ w.frozen? ⟨b, k * 3 + 1, none⟩ = false := by
  have hl := h.len
  obtain ⟨ps, rfl, h1, h2⟩ := h
  obtain ⟨A, c0, hv, hf⟩ := own_form h1
  injection hv with e1 _ _
  subst e1
  obtain ⟨b', e1, b1, b2, hc⟩ := hf (by omega)
  injection e1 with e1
  injection e1 with e1
  subst e1
  rw [List.length_map] at hl
  have h3 : ∀ i u, i < 3 → (pcells (ps[k]'(by omega)))[i]? = some u → Cl w b (k * 3 + i) u := fun i u hi hu => by
    have e2 := flat_at (α := Step × Value) (f := pcells) pcells_len ps k i (by omega) hi
    rw [nth_eq (by omega)] at e2
    exact hc (k * 3 + i) u (by rw [e2]; exact hu)
  obtain ⟨A', m', c', e2, h4⟩ := h2 (ps[k]'(by omega)) (List.getElem_mem _)
  have e3 : nth (ps.map (·.1)) k = (ps[k]'(by omega)).1 := by rw [nth_eq (by rw [List.length_map]; omega)]; simp
  rw [e3]
  have c1 := h3 1 _ (by omega) rfl
  rw [e2] at c1
  exact ⟨A', m', c', ⟨(h3 0 _ (by omega) rfl).1, c1.1, (h3 2 _ (by omega) rfl).1⟩, h4, c1.2⟩

/-- A step's list is written. -/
theorem SRow.setAfter {w : World} {base b n c k m d : Nat} {B : Option Addr} {ss : List Step} {ys : List Str} (h : SRow w base (.slice (some ⟨b, 0, none⟩) n c) n ss) (hk : k < n) (hs : SStr w base B m ys) :
    SRow (w.setCell ⟨b, k * 3 + 1, none⟩ (.slice B m d)) base (.slice (some ⟨b, 0, none⟩) n c) n (ss.set k { nth ss k with after := ys }) := by
  have hlen := h.len
  obtain ⟨ps, rfl, h1, h2⟩ := h
  rw [List.length_map] at hlen
  have hkp : k < ps.length := by omega
  obtain ⟨g, cap, cur, e0, hb, hg, hn, hm, hcs, ht⟩ : ∃ g cap cur, Value.slice (some ⟨b, 0, none⟩) n c = .slice (some ⟨g, 0, none⟩) n cap ∧ base ≤ g ∧ w.heap[g]? = some (.cells cur 75 (0, 0)) ∧ n ≤ cap ∧ cap ≤ maxLen ∧ cur.size = cap * 3 ∧ cur.toList.take (n * 3) = ps.flatMap pcells := by
    rcases h1.2 with ⟨e, _⟩ | h
    · cases e
    · exact h
  injection e0 with e1 _ e3
  injection e1 with e1
  injection e1 with e1
  subst e1; subst e3
  have hkeep : ∀ b' cs, base ≤ b' → w.heap[b']? = some (.cells cs 9 (0, 0)) → (w.setCell ⟨b, k * 3 + 1, none⟩ (.slice B m d)).heap[b']? = w.heap[b']? := fun b' cs _ hc =>
    Below.heap_setCell _ _ _ _ (by
      intro e
      have e : b' = b := e
      subst e
      rw [hg] at hc
      have := Option.some.inj hc
      injection this with _ e2
      exact absurd e2 (by decide))
  have hx : nth (ps.map (·.1)) k = (nth ps k).1 := by rw [nth_eq (by rw [List.length_map]; exact hkp), nth_eq hkp]; simp
  refine ⟨ps.set k ({ (nth ps k).1 with after := ys }, .slice B m d), ?_, ⟨?_, .inr ⟨b, c, _, rfl, hb, set_at (o := k * 3 + 1) (u := .slice B m d) hg, hn, hm, by rw [Array.size_setIfInBounds]; exact hcs, ?_⟩⟩, fun p hp => ?_⟩
  · rw [List.map_set, hx]
  · rw [flat_len pcells_len, List.length_set]; omega
  · refine List.ext_getElem? fun t => ?_
    by_cases ht3 : t < n * 3
    · have e2 : t / 3 * 3 + t % 3 = t := by omega
      have h3 := flat_at (f := pcells) pcells_len (ps.set k ({ (nth ps k).1 with after := ys }, .slice B m d)) (t / 3) (t % 3) (by rw [List.length_set]; omega) (Nat.mod_lt _ (by omega))
      have h4 := flat_at (f := pcells) pcells_len ps (t / 3) (t % 3) (by omega) (Nat.mod_lt _ (by omega))
      rw [e2] at h3 h4
      rw [List.getElem?_take_of_lt ht3, Array.getElem?_toList, Array.getElem?_setIfInBounds, h3, nth_set hkp]
      have h5 : cur[t]? = (pcells (nth ps (t / 3)))[t % 3]? := by
        rw [← h4, ← ht, List.getElem?_take_of_lt ht3, Array.getElem?_toList]
      by_cases hkt : t / 3 = k
      · rw [if_pos hkt]
        by_cases h6 : t % 3 = 1
        · rw [if_pos (by omega), if_pos (by omega), h6]
          rfl
        · rw [if_neg (by omega), h5, hkt]
          have h7 : t % 3 = 0 ∨ t % 3 = 2 := by omega
          rcases h7 with h7 | h7 <;> rw [h7] <;> rfl
      · rw [if_neg hkt, if_neg (by omega), h5]
    · rw [List.getElem?_take_eq_none (by omega), List.getElem?_eq_none (by rw [flat_len pcells_len, List.length_set]; omega)]
  · rcases List.mem_or_eq_of_mem_set hp with hp | rfl
    · obtain ⟨A', m', c', e, h6⟩ := h2 p hp
      exact ⟨A', m', c', e, h6.kept hkeep⟩
    · exact ⟨B, m, d, rfl, hs.kept hkeep⟩

set_option maxRecDepth 100000 in
/-- A step is struck by slices.Delete. -/
theorem delRow_any (b m c i base : Nat) (ss : List Step) (w : World) (h : SRow w base (.slice (some ⟨b, 0, none⟩) (m + 1) c) (m + 1) ss) (hi : i < m + 1) (hcm : c ≤ maxLen) :
    Calls Try.prog 146 #[.slice (some ⟨b, 0, none⟩) (m + 1) c, .int .i64 (i : Int), .int .i64 ((i : Int) + 1)] w fun e w' => e = .returned (.slice (some ⟨b, 0, none⟩) m c) ∧ SRow w' base (.slice (some ⟨b, 0, none⟩) m c) m (ss.eraseIdx i) ∧ w.grownBy w' (some b) := by
  have hlen := h.len
  obtain ⟨ps, rfl, h1, h2⟩ := h
  rw [List.length_map] at hlen
  obtain ⟨g, cap, cur, e0, hb, hg, hn, hm, hcs, ht⟩ : ∃ g cap cur, Value.slice (some ⟨b, 0, none⟩) (m + 1) c = .slice (some ⟨g, 0, none⟩) (m + 1) cap ∧ base ≤ g ∧ w.heap[g]? = some (.cells cur 75 (0, 0)) ∧ m + 1 ≤ cap ∧ cap ≤ maxLen ∧ cur.size = cap * 3 ∧ cur.toList.take ((m + 1) * 3) = ps.flatMap pcells := by
    rcases h1.2 with ⟨e, _⟩ | h
    · cases e
    · exact h
  injection e0 with e1 _ e3
  injection e1 with e1
  injection e1 with e1
  subst e1; subst e3
  have hcl : (ps.flatMap pcells).length = (m + 1) * 3 := by rw [flat_len pcells_len, hlen]
  have hat : ∀ k u, (ps.flatMap pcells)[k]? = some u → cur[k]? = some u := fun k u hu => by
    have hk : k < (m + 1) * 3 := by
      rcases Nat.lt_or_ge k ((m + 1) * 3) with h | h
      · exact h
      · rw [List.getElem?_eq_none (by omega)] at hu; cases hu
    rw [← ht, List.getElem?_take_of_lt hk, Array.getElem?_toList] at hu
    exact hu
  have hcon := delStep_any b 0 (m + 1) c i (i + 1) (ps.flatMap pcells) w hcl (fun k u hu => by
      rw [Nat.zero_add]
      exact blk_cl hg (hat k u hu)) (fun u hu => by
      obtain ⟨p, hp, hu⟩ := List.mem_flatMap.1 hu
      obtain ⟨A', m', c', e2, _⟩ := h2 p hp
      simp [pcells, e2] at hu
      rcases hu with rfl | rfl | rfl <;> rfl) hi rfl hn hcm
  rw [show (((i + 1 : Nat) : Int)) = (i : Int) + 1 by omega] at hcon
  refine hcon.mono ?_
  rintro e w' ⟨rfl, q, rfl⟩
  rw [Nat.zero_add, Nat.zero_add, show m + 1 - 1 = m by omega]
  have hg0 : (w.drewN q).heap[b]? = some (.cells cur 75 (0, 0)) := hg
  obtain ⟨cs1, k1, k2, k3⟩ := blk_setCells ((ps.flatMap pcells).drop ((i + 1) * 3)) (i * 3) (w.drewN q) cur hg0
  obtain ⟨cs2, l1, l2, l3⟩ := blk_setCells zStep (m * 3) _ cs1 k1
  have hgr : w.grownBy (((w.drewN q).setCells b (i * 3) ((ps.flatMap pcells).drop ((i + 1) * 3))).setCells b (m * 3) zStep) (some b) :=
    grown_setCells _ _ _ _ (grown_setCells _ _ _ _ ⟨rfl, rfl, rfl, Nat.le_refl _, fun _ _ _ => rfl⟩)
  refine ⟨rfl, ⟨ps.eraseIdx i, by rw [List.eraseIdx_eq_take_drop_succ, List.eraseIdx_eq_take_drop_succ, List.map_append, List.map_take, List.map_drop], ⟨?_, .inr ⟨b, c, cs2, rfl, hb, l1, by omega, hm, by omega, ?_⟩⟩, fun p hp => ?_⟩, hgr⟩
  · rw [flat_len pcells_len, List.length_eraseIdx, if_pos (by omega)]; omega
  · have hcur : ∀ t, t < (m + 1) * 3 → cur[t]? = (ps.flatMap pcells)[t]? := fun t ht3 => by
      rw [← ht, List.getElem?_take_of_lt ht3, Array.getElem?_toList]
    rw [List.eraseIdx_eq_take_drop_succ, List.flatMap_append, ← flat_take pcells_len, ← flat_drop pcells_len]
    refine List.ext_getElem? fun t => ?_
    have hdl : ((ps.flatMap pcells).drop ((i + 1) * 3)).length = (m - i) * 3 := by rw [List.length_drop, hcl]; omega
    by_cases ht3 : t < m * 3
    · rw [List.getElem?_take_of_lt ht3, Array.getElem?_toList, l3 t (by omega), if_neg (by omega), k3 t (by omega), hdl]
      by_cases h5 : t < i * 3
      · rw [if_neg (by omega), List.getElem?_append_left (by rw [List.length_take, hcl]; omega), List.getElem?_take_of_lt h5, hcur t (by omega)]
      · rw [if_pos (by omega), List.getElem?_append_right (by rw [List.length_take, hcl]; omega), List.length_take, hcl, Nat.min_eq_left (by omega)]
    · rw [List.getElem?_take_eq_none (by omega), List.getElem?_eq_none (by rw [List.length_append, List.length_take, hcl, hdl]; omega)]
  · obtain ⟨A', m', c', e2, h6⟩ := h2 p (List.mem_of_mem_eraseIdx hp)
    refine ⟨A', m', c', e2, h6.kept fun b' cs _ hc => hgr.block b' (heap_lt hc) ?_⟩
    intro e
    injection e with e
    subst e
    rw [hg] at hc
    have := Option.some.inj hc
    injection this with _ e2
    exact absurd e2 (by decide)

/-- A call of a function with two arguments, at one operation. -/
theorem wp_call2 {P : Program} {o : Oper} {a : Act} {w : World} {K : Act → World → Prop} {Q : Exit → Act → World → Prop} (f : FuncId) (l r : Operand) (v u : Value) (tys : Array TypeId)
    (ho : o.op = .call { callee := .value (.func f), args := #[l, r], argTypes := tys }) (he : ∀ vals w, (callFunc f vals).run P w = .ok (.enter f vals) w) (hs : a.eval l = v) (hx : a.eval r = u)
    (h : Calls P f #[v, u] w fun e w' => ∃ x, e = .returned x ∧ K (a.put o.dst x) w') : o.wp P a w K Q := by
  have ha : a.eval (.func f) = .func (.func f) #[] #[] := rfl
  unfold Oper.wp execOp
  simp only [ho, resolve, invoke, Sem.run_bind, Sem.run_pure, Result.andThen_ok, Deferred.ofValue, Array.append_empty, List.map_toArray, List.map_cons, List.map_nil, hs, hx, ha, he, Oper.upon]
  refine h.mono ?_
  rintro e w' ⟨x, rfl, hk⟩
  exact hk

/-- A call of a function with one argument, at one operation. -/
theorem wp_call1 {P : Program} {o : Oper} {a : Act} {w : World} {K : Act → World → Prop} {Q : Exit → Act → World → Prop} (f : FuncId) (l : Operand) (v : Value) (tys : Array TypeId)
    (ho : o.op = .call { callee := .value (.func f), args := #[l], argTypes := tys }) (he : ∀ vals w, (callFunc f vals).run P w = .ok (.enter f vals) w) (hs : a.eval l = v)
    (h : Calls P f #[v] w fun e w' => ∃ x, e = .returned x ∧ K (a.put o.dst x) w') : o.wp P a w K Q := by
  have ha : a.eval (.func f) = .func (.func f) #[] #[] := rfl
  unfold Oper.wp execOp
  simp only [ho, resolve, invoke, Sem.run_bind, Sem.run_pure, Result.andThen_ok, Deferred.ofValue, Array.append_empty, List.map_toArray, List.map_cons, List.map_nil, hs, ha, he, Oper.upon]
  refine h.mono ?_
  rintro e w' ⟨x, rfl, hk⟩
  exact hk
/-- But for one cell's block and a row's block all that was there is as it was. -/
structure But (p : Nat) (row : Option Nat) (w w' : World) : Prop where
  os : w'.os = w.os
  tape : w'.tape = w.tape
  output : w'.output = w.output
  size : w.heap.size ≤ w'.heap.size
  block : ∀ k, k < w.heap.size → k ≠ p → some k ≠ row → w'.heap[k]? = w.heap[k]?
theorem But.trans {p : Nat} {row : Option Nat} {w w1 w' : World} (h : But p row w w1) (k : But p row w1 w') : But p row w w' :=
  ⟨k.os.trans h.os, k.tape.trans h.tape, k.output.trans h.output, Nat.le_trans h.size k.size, fun i h1 h2 h3 => (k.block i (Nat.lt_of_lt_of_le h1 h.size) h2 h3).trans (h.block i h1 h2 h3)⟩
theorem But.of_grown {p : Nat} {row : Option Nat} {w w' : World} (h : w.grownBy w' row) : But p row w w' := ⟨h.os, h.tape, h.output, h.size, fun i h1 _ h3 => h.block i h1 h3⟩
theorem But.of_below {p : Nat} {row : Option Nat} {w w' : World} (h : Below w.heap.size w w') : But p row w w' := ⟨h.os, h.tape, h.output, h.size, fun i h1 _ _ => h.block i h1⟩
theorem But.set_ {p : Nat} {row : Option Nat} {w w' : World} (h : But p row w w') (o : Nat) (u : Value) : But p row w (w'.setCell ⟨p, o, none⟩ u) :=
  ⟨h.os, h.tape, h.output, by simpa [World.setCell] using h.size, fun i h1 h2 h3 => (Below.heap_setCell _ _ _ _ h2).trans (h.block i h1 h2 h3)⟩
theorem But.below {p base : Nat} {row : Option Nat} {w w' : World} (h : But p row w w') (hp : base ≤ p) (hr : ∀ k, row = some k → base ≤ k) (hb : base ≤ w.heap.size) : Below base w w' :=
  ⟨h.os, h.tape, h.output, h.size, fun i hi => h.block i (by omega) (by omega) (fun e => by have := hr i e.symm; omega)⟩

/-! ### The steps, one by one -/
def curL (es : List Step) (nm : Str) (gone : List Str) (k : Nat) : List Step := (es.take k).map (woStep nm gone) ++ es.drop k
theorem curL_zero (es : List Step) (nm : Str) (gone : List Str) : curL es nm gone 0 = es := by simp [curL]
theorem curL_at {es : List Step} {nm : Str} {gone : List Str} {k : Nat} (hk : k < es.length) : nth (curL es nm gone k) k = nth es k := by
  have hl : ((es.take k).map (woStep nm gone)).length = k := by rw [List.length_map, List.length_take]; omega
  unfold curL
  rw [nth_eq (by rw [List.length_append, hl, List.length_drop]; omega), nth_eq hk, List.getElem_append_right (by omega)]
  simp only [hl, Nat.sub_self]
  rw [List.getElem_drop]
  rfl
theorem curL_succ {es : List Step} {nm : Str} {gone : List Str} {k : Nat} (hk : k < es.length) : curL es nm gone (k + 1) = (curL es nm gone k).set k (woStep nm gone (nth es k)) := by
  have hl : ((es.take k).map (woStep nm gone)).length = k := by rw [List.length_map, List.length_take]; omega
  have e : es.drop k = nth es k :: es.drop (k + 1) := by rw [nth_eq hk]; exact List.drop_eq_getElem_cons hk
  unfold curL
  rw [take_nth hk, List.map_append, e, List.set_append_right _ _ (by omega), hl, Nat.sub_self]
  simp
theorem curL_no {es : List Step} {nm : Str} {gone : List Str} {k : Nat} (hk : k < es.length) (h : hasB (nth es k).after nm = false) : curL es nm gone (k + 1) = curL es nm gone k := by
  rw [curL_succ hk]
  have e : woStep nm gone (nth es k) = nth (curL es nm gone k) k := by
    rw [curL_at hk]
    unfold woStep woAfter
    rw [if_neg (by rw [h]; simp)]
  rw [e]
  have hl : (curL es nm gone k).length = es.length := by unfold curL; rw [List.length_append, List.length_map, List.length_take, List.length_drop]; omega
  rw [nth_eq (by omega)]
  exact List.set_getElem_self (by omega)
theorem curL_all {es : List Step} {nm : Str} {gone : List Str} {k : Nat} (hk : es.length ≤ k) : curL es nm gone k = es.map (woStep nm gone) := by
  unfold curL; rw [List.take_of_length_le hk, List.drop_of_length_le hk, List.append_nil]
theorem erase_filter : ∀ (ss : List Step) (i : Nat), (namesOf ss).Nodup → i < ss.length → ss.eraseIdx i = ss.filter fun s => !decide (s.name = (nth ss i).name)
  | [], i, _, hi => absurd hi (by simp)
  | s :: ss, 0, hn, _ => by
    have h1 : s.name ∉ namesOf ss := (List.nodup_cons.1 hn).1
    have e : nth (s :: ss) 0 = s := rfl
    rw [List.eraseIdx_cons_zero, e, List.filter_cons, if_neg (by simp)]
    exact (List.filter_eq_self.2 fun a ha => by
      have : a.name ≠ s.name := fun e => h1 (e ▸ List.mem_map.2 ⟨a, ha, rfl⟩)
      simp [this]).symm
  | s :: ss, i + 1, hn, hi => by
    have h1 : s.name ∉ namesOf ss := (List.nodup_cons.1 hn).1
    have h2 : (namesOf ss).Nodup := (List.nodup_cons.1 hn).2
    have hi' : i < ss.length := by simpa using hi
    have e : nth (s :: ss) (i + 1) = nth ss i := by rw [nth_eq hi, nth_eq hi']; rfl
    have hne : s.name ≠ (nth ss i).name := fun e => h1 (by rw [e]; exact List.mem_map.2 ⟨_, mem_nth hi', rfl⟩)
    rw [List.eraseIdx_cons_succ, e, List.filter_cons, if_pos (by simp [hne]), erase_filter ss i h2 hi']
theorem wo_erase {ss : List Step} {nm : Str} (hn : (namesOf ss).Nodup) (h : hasB (namesOf ss) nm = true) : (ss.eraseIdx (plc ss nm)).map (woStep nm (nth ss (plc ss nm)).after) = woL ss nm := by
  obtain ⟨h1, _, h3⟩ := plc_ex h
  rw [erase_filter ss _ hn h1, h3]
  rfl
end Go.Proofs.Ytakeijgoonagcaa

/- A step taken away by the program: (*Flow).drop. -/
namespace Go.Proofs.Ytakeijgoonagcaa
open Go.RowKit

theorem own_strU {w : World} {base n : Nat} {v : Value} {xs : List Value} (h : w.ownsRow base 9 1 v n xs) (hn : 0 < n) : ∃ b c, v = .slice (some ⟨b, 0, none⟩) n c ∧ base ≤ b ∧ b < w.heap.size := by
  rcases h.2 with ⟨_, e⟩ | ⟨g, cap, cur, e, hb, hg, _⟩
  · omega
  · exact ⟨g, cap, e, hb, heap_lt hg⟩
theorem own_at10 {w w' : World} {base n b3 c3 m3 : Nat} {v : Value} {xs : List Value} (h : w'.ownsRow base 9 1 v n xs) (h3 : base ≤ b3) (_ : base ≤ w.heap.size) (hat : v.ownBlock = (Value.slice (some ⟨b3, 0, none⟩) m3 c3).ownBlock ∨ v.ownBlock = some w.heap.size) :
    ∃ b c, v = .slice (some ⟨b, 0, none⟩) n c ∧ base ≤ b ∧ b < w'.heap.size := by
  rcases h.2 with ⟨e, _⟩ | ⟨g, cap, cur, e, hb, hg, _⟩
  · subst e
    rcases hat with e | e <;> simp [Value.ownBlock] at e
  · exact ⟨g, cap, e, hb, heap_lt hg⟩

set_option maxRecDepth 100000 in
set_option maxHeartbeats 8000000 in
theorem drop_any (p b m c : Nat) (ver : Int) (ss : List Step) (nm : Str) (base : Nat) (w : World) (hp : w.heap[p]? = some (.cells #[.int .i64 ver, .slice (some ⟨b, 0, none⟩) (m + 1) c] 34)) (hrow : SRow w base (.slice (some ⟨b, 0, none⟩) (m + 1) c) (m + 1) ss) (hn8 : m + 1 ≤ 8)
    (hsh : ∀ j, j < m + 1 → (nth ss j).after.length ≤ 100) (hnd : (namesOf ss).Nodup) (hh : hasB (namesOf ss) nm = true) (hbp : base ≤ p) (hcm : c ≤ maxLen) :
    Calls Try.prog 100 #[.pointer (some ⟨p, 0, none⟩), .string nm] w fun e w' => e = .returned (.tuple #[]) ∧ w'.heap[p]? = some (.cells #[.int .i64 ver, .slice (some ⟨b, 0, none⟩) m c] 34) ∧
      SRow w' base (.slice (some ⟨b, 0, none⟩) m c) m (woL ss nm) ∧ But p (some b) w w' := by
  obtain ⟨hpl, hix, hpn⟩ := plc_ex hh
  have HWO := Lib.hid (wo_erase hnd hh)
  have HIX := Lib.hid hix
  have hlen : ss.length = m + 1 := hrow.len
  have HLEN := Lib.hid hlen
  have HSH := Lib.hid hsh; clear hsh
  obtain ⟨b', cur, eb, hbb, hbk, hmc, hcx, hcs⟩ := SRow.form hrow (by omega)
  injection eb with eb
  injection eb with eb
  subst eb
  have hnpb : p ≠ b := fun e => by subst e; rw [hp] at hbk; injection hbk with hbk; injection hbk with _ hbk; exact absurd hbk (by decide)
  have hbl := heap_lt hbk
  have hplw := heap_lt hp
  generalize plc ss nm = at0 at *
  have hat : at0 < m + 1 := by omega
  have HBL := Lib.hid ((Below.refl w.heap.size w).alloc (Nat.le_refl _) (.cells #[.string nm] 9))
  have HN := Lib.hid (heap_new (w := w) (o := .cells #[.string nm] 9) rfl)
  have HP := Lib.hid (heap_old (o := .cells #[.string nm] 9) hp); clear hp
  have HR := Lib.hid (hrow.below ((Below.refl _ _).alloc (Nat.le_refl _) (.cells #[.string nm] 9))); clear hrow
  have HBK := Lib.hid (heap_old (o := .cells #[.string nm] 9) hbk); clear hbk
  clear hix hh hpn hlen hnd
  go_enter Try.func100, Try.ntmps100
  go_upto_region 1 with fail
  generalize w.alloc (.cells #[.string nm] 9) = W at *
  generalize hb0 : w.heap.size = b0 at *
  have HB00 := Lib.hid hb0; clear hb0
  have hb0W := heap_lt HN.out
  have HRW := Lib.hid ((show RStep W base (some ⟨b, 0, none⟩) (m + 1) ss by obtain ⟨A, c9, e, h⟩ := HR.out.hat; cases e; exact h))
  have HSB : Hid (∀ w', Below W.heap.size W w' → (fun w' : World => (w'.cell? ⟨p, 0, none⟩ = some (.int .i64 ver) ∧ w'.cell? ⟨p, 1, none⟩ = some (.slice (some ⟨b, 0, none⟩) (m + 1) c)) ∧ w'.cell? ⟨b0, 0, none⟩ = some (.string nm)) w') := Lib.hid (fun w' h => by
    have e1 := (h.block _ (heap_lt HP.out)).trans HP.out
    have e2 := (h.block _ (heap_lt HN.out)).trans HN.out
    exact ⟨⟨(blk_cl (k := 0) e1 rfl).1, (blk_cl (k := 1) e1 rfl).1⟩, (blk_cl (k := 0) e2 rfl).1⟩)
  go_wp2_with fail
  refine wp_region_held_drew (S := fun w' : World => (w'.cell? ⟨p, 0, none⟩ = some (.int .i64 ver) ∧ w'.cell? ⟨p, 1, none⟩ = some (.slice (some ⟨b, 0, none⟩) (m + 1) c)) ∧ w'.cell? ⟨b0, 0, none⟩ = some (.string nm)) (by kernel_rfl) (HSB.out _ (Below.refl _ _).drew) (fun hH => ?_)
  refine wpAnyH_takeE (i := 0) (d := some 9) (v := ?v301) rfl (by rfl) (by kernel_rfl) (by kernel_rfl) (by kernel_rfl) (fun _ _ _ h => h) (Or.inl ⟨by rfl, ?y301⟩) hH ?r301
  case y301 => (intro w' hS; (try dsimp only at hS); go_simp; (try with_reducible rfl))
  (try simp only [Act.put, List.setIfInBounds_toArray, List.set_cons_zero, List.set_cons_succ])
  refine wpAnyH_takeE (i := 1) (d := some 10) (v := ?v302) rfl (by rfl) (by kernel_rfl) (by kernel_rfl) (by kernel_rfl) (fun _ _ _ h => h) (Or.inl ⟨by rfl, ?y302⟩) hH ?r302
  case y302 => (intro w' hS; (try dsimp only at hS); go_simp; (try with_reducible rfl))
  (try simp only [Act.put, List.setIfInBounds_toArray, List.set_cons_zero, List.set_cons_succ])
  refine wpAnyH_takeE (i := 2) (d := some 11) (v := ?v303) rfl (by rfl) (by kernel_rfl) (by kernel_rfl) (by kernel_rfl) (fun _ _ _ h => h) (Or.inl ⟨by rfl, ?y303⟩) hH ?r303
  case y303 => (intro w' hS; (try dsimp only at hS); go_simp; (try with_reducible rfl))
  (try simp only [Act.put, List.setIfInBounds_toArray, List.set_cons_zero, List.set_cons_succ])
  refine wpAnyH_takeE (i := 3) (d := some 12) (v := ?v304) rfl (by rfl) (by kernel_rfl) (by kernel_rfl) (by kernel_rfl) (fun _ _ _ h => h) (Or.inl ⟨by rfl, ?y304⟩) hH ?r304
  case y304 => (intro w' hS; (try dsimp only at hS); go_simp; (try with_reducible rfl))
  (try simp only [Act.put, List.setIfInBounds_toArray, List.set_cons_zero, List.set_cons_succ])
  refine wpAnyH_ready (rs := [4]) (by kernel_rfl) (by simp) ?_
  refine AllReadyH.cons rfl (fun K hK => ?_) AllReadyH.nil
  go_wp2_with fail
  go_at_call 99
  refine (at_any _ _ _ ver ss nm _ _ (HRW.out.below (Below.refl _ _).drew) (by omega)).mono ?_
  rintro e w2 ⟨rfl, hb2⟩
  have HB2 := Lib.hid ((Below.refl W.heap.size W).drew.trans hb2)
  rw [HIX.out]
  go_wp2_with fail
  refine hK.out _ _ (HSB.out _ HB2.out) (fun hH2 => ?_)
  clear hK K hH
  have hH := hH2
  (try simp only [Act.put, List.setIfInBounds_toArray, List.set_cons_zero, List.set_cons_succ])
  refine wpAnyH_ready (rs := [5]) (by kernel_rfl) (by simp) ?_
  refine AllReadyH.cons rfl (fun K hK => ?_) AllReadyH.nil
  go_simp
  refine hK.out _ _ (HSB.out _ HB2.out) (fun hH2 => ?_)
  clear hK K hH
  have hH := hH2
  (try simp only [Act.put, List.setIfInBounds_toArray, List.set_cons_zero, List.set_cons_succ])
  refine wpAnyH_done (by kernel_rfl) ?_ _
  -- the step that goes
  have HP2 := Lib.hid ((HB2.out.block _ (heap_lt HP.out)).trans HP.out)
  have HN2 := Lib.hid ((HB2.out.block _ hb0W).trans HN.out)
  have HR2 := Lib.hid (HR.out.below HB2.out)
  have HBK2 := Lib.hid ((HB2.out.block _ (heap_lt HBK.out)).trans HBK.out)
  have hsz2 := HB2.out.size
  have HBW2 := Lib.hid (HBL.out.trans (HB2.out.mono (Nat.le_of_lt hb0W)))
  clear hb2
  obtain ⟨G, ng, cg, ⟨d1, d2, d3⟩, hgs, _⟩ := HR2.out.step_at hat
  have HGS := Lib.hid hgs; clear hgs
  have hng : ng ≤ 100 := by rw [← HGS.out.1]; exact HSH.out at0 hat
  have hb2l : b < w2.heap.size := by omega
  have hk0 : (0 : Int) ≤ (at0 : Int) := by omega
  have hk1 : (at0 : Int) < ((m + 1 : Nat) : Int) := by omega
  have hk2 : ¬ ((at0 : Int) < 0) := by omega
  have hk3 : (at0 : Int) < (m : Int) + 1 := by omega
  have x1 := (blk_cl (k := 1) HP2.out rfl).1
  have x1a := (blk_cl (k := 1) (heap_old (o := .cells #[.string (nth ss at0).name, .slice G ng cg, .bool (nth ss at0).undo] 75) HP2.out) rfl).1
  have hww : w2.heap.size + 1 ≤ (w2.alloc (.cells #[.string (nth ss at0).name, .slice G ng cg, .bool (nth ss at0).undo] 75)).heap.size := by simp
  go_wp2_with fail
  refine (delRow_any b m c at0 base ss _ (HR2.out.below ((Below.refl _ _).alloc (Nat.le_refl _) _)) hat hcm).mono ?_
  rintro e w3 ⟨rfl, hrow3, hg3⟩
  have HG3 := Lib.hid (heap_new (w := w2) (o := .cells #[.string (nth ss at0).name, .slice G ng cg, .bool (nth ss at0).undo] 75) rfl)
  have HA3 := Lib.hid ((Below.refl w2.heap.size w2).alloc (Nat.le_refl _) (.cells #[.string (nth ss at0).name, .slice G ng cg, .bool (nth ss at0).undo] 75))
  have HP3 := Lib.hid (grown_blk hg3 ((HA3.out.block _ (heap_lt HP2.out)).trans HP2.out) (fun e => hnpb (by injection e with e; exact e.symm)))
  have HN3 := Lib.hid (grown_blk hg3 ((HA3.out.block _ (heap_lt HN2.out)).trans HN2.out) (fun e => by injection e with e; omega))
  have HG3b := Lib.hid (grown_blk hg3 HG3.out (fun e => by injection e with e; omega))
  have HGS3 := Lib.hid (HGS.out.kept (w' := w3.setCell ⟨p, 1, none⟩ (.slice (some ⟨b, 0, none⟩) m c)) (fun b' cs _ hc => by
    have n1 : b' ≠ p := fun e => by subst e; rw [HP2.out] at hc; injection hc with hc; injection hc with _ hc; exact absurd hc (by decide)
    have n2 : b' ≠ b := fun e => by subst e; rw [HBK2.out] at hc; injection hc with hc; injection hc with _ hc; exact absurd hc (by decide)
    exact (Below.heap_setCell _ _ _ _ n1).trans ((hg3.block b' (by have := heap_lt hc; simp; omega) (fun e => by injection e with e; exact n2 e)).trans (HA3.out.block _ (heap_lt hc)))))
  have HT3 : Hid (But p (some b) w w3) := Lib.hid (((But.of_below (by rw [HB00.out]; exact HBW2.out)).trans (But.of_below HA3.out)).trans (But.of_grown hg3))
  clear d1 d2 d3 x1 x1a hg3
  have y1 := (blk_cl (k := 1) HP3.out rfl).1
  have y1' := (blk_cl (k := 1) HP3.out rfl).2
  have HR3 := Lib.hid hrow3; clear hrow3
  go_wp2_with fail
  have HP5 := Lib.hid (set21 (u := .slice (some ⟨b, 0, none⟩) m c) HP3.out)
  have HR5 := Lib.hid (HR3.out.set (o := 1) (u := .slice (some ⟨b, 0, none⟩) m c) HP3.out (by decide) (by decide))
  have HN5 := Lib.hid (set_ne (b := p) (o := 1) (u := .slice (some ⟨b, 0, none⟩) m c) HN3.out (by omega))
  have HG5 := Lib.hid (set_ne (b := p) (o := 1) (u := .slice (some ⟨b, 0, none⟩) m c) HG3b.out (by omega))
  have HT5 := Lib.hid (HT3.out.set_ 1 (.slice (some ⟨b, 0, none⟩) m c))
  have HES : Hid ((ss.eraseIdx at0).length = m) := Lib.hid (by rw [List.length_eraseIdx, if_pos (by rw [HLEN.out]; exact hat), HLEN.out]; omega)
  have HSE : Hid (∀ j, j < m → (nth (ss.eraseIdx at0) j).after.length ≤ 100) := Lib.hid (fun j hj => by
    have := List.mem_of_mem_eraseIdx (mem_nth (show j < (ss.eraseIdx at0).length by rw [HES.out]; exact hj))
    obtain ⟨i, hi, e⟩ := nth_of_mem this
    rw [← e]
    exact HSH.out i (by rw [← HLEN.out]; exact hi))
  have hnpb2 : (some b : Option Nat) ≠ some p := fun e => hnpb (by injection e with e; exact e.symm)
  have hnnb2 : (some b : Option Nat) ≠ some b0 := fun e => by injection e with e; omega
  have hngb2 : (some b : Option Nat) ≠ some w2.heap.size := fun e => by injection e with e; omega
  clear y1 y1' HG3 HG3b HGS HA3 HP3 HN3 HT3 HBK HBK2 HP HP2 HN HN2 HR HR2 HR3 HRW HSB HSH HB2 HBW2 hww hsz2
  generalize w2.heap.size = b1 at *
  generalize hesn : ss.eraseIdx at0 = es at *
  generalize hgon : (nth ss at0).after = gone at *
  have HWO2 : Hid (es.map (woStep nm gone) = woL ss nm) := Lib.hid HWO.out
  clear hesn hgon HWO HIX HLEN hpl
  generalize w3.setCell ⟨p, 1, none⟩ (.slice (some ⟨b, 0, none⟩) m c) = W5 at *
  have hpl5 := heap_lt HP5.out
  have hnl5 := heap_lt HN5.out
  have hgl5 := heap_lt HG5.out
  go_loopw [37] (fun i wr => ∃ k : Nat, k ≤ m ∧ i = .int .i64 (k : Int) ∧ SRow wr base (.slice (some ⟨b, 0, none⟩) m c) m (curL es nm gone k) ∧ W5.grownBy wr (some b)) (fun i _ => m - (intOf i).toNat)
  case atStart => exact ⟨0, Nat.zero_le _, rfl, by rw [curL_zero]; exact HR5.out, World.grownBy.refl _ _⟩
  case round =>
    obtain ⟨wo, rfl⟩ : ∃ wo : World, wo = wr := ⟨_, rfl⟩
    obtain ⟨k, hk, rfl, hrow, hgw⟩ := hrel
    have HROW := Lib.hid hrow; clear hrow
    have HGW := Lib.hid hgw; clear hgw
    have hso := HGW.out.size
    by_cases hlt : k < m
    · obtain ⟨A', n', c', ⟨d1, d2, d3⟩, hss, hfz⟩ := HROW.out.step_at hlt
      have hke : k < es.length := by rw [HES.out]; exact hlt
      rw [curL_at hke] at d1 d3 hss
      have hn' : n' ≤ 100 := by rw [← hss.1]; exact HSE.out k hlt
      have hk0 : (0 : Int) ≤ (k : Int) := by omega
      have hk1 : (k : Int) < (m : Int) := by omega
      have hk2 : ¬ ((k : Int) < 0) := by omega
      have HSS := Lib.hid hss; clear hss
      have HA := Lib.hid ((Below.refl wo.heap.size wo).alloc (Nat.le_refl _) (.cells #[.string (nth es k).name, .slice A' n' c', .bool (nth es k).undo] 75))
      have HBX := Lib.hid (heap_new (w := wo) (o := .cells #[.string (nth es k).name, .slice A' n' c', .bool (nth es k).undo] 75) rfl)
      have HPo := Lib.hid (heap_old (o := .cells #[.string (nth es k).name, .slice A' n' c', .bool (nth es k).undo] 75) (grown_blk HGW.out HP5.out hnpb2))
      have HNo := Lib.hid (heap_old (o := .cells #[.string (nth es k).name, .slice A' n' c', .bool (nth es k).undo] 75) (grown_blk HGW.out HN5.out hnnb2))
      have HGo := Lib.hid (heap_old (o := .cells #[.string (nth es k).name, .slice A' n' c', .bool (nth es k).undo] 75) (grown_blk HGW.out HG5.out hngb2))
      have hbo : b < wo.heap.size := by
        obtain ⟨b9, cur9, eb9, _, h9, _⟩ := SRow.form HROW.out (by omega)
        injection eb9 with eb9
        injection eb9 with eb9
        rw [← eb9] at h9
        exact heap_lt h9
      have HDR := Lib.hid (HSS.out.below HA.out).hat
      have HGN := Lib.hid ((HGS3.out.kept (w' := wo) (fun b' cs _ hc => HGW.out.block b' (heap_lt hc) (fun e => by
        injection e with e
        subst e
        obtain ⟨b9, cur9, eb9, _, h9, _⟩ := SRow.form HR5.out (by omega)
        injection eb9 with eb9
        injection eb9 with eb9
        rw [← eb9, hc] at h9
        injection h9 with h9
        injection h9 with _ h9
        exact absurd h9 (by decide)))).below HA.out).hat
      have HRq := Lib.hid (HROW.out.below HA.out)
      cases hc : hasB (nth es k).after nm
      · have HT := Lib.hid (curL_no (gone := gone) hke hc)
        have z1 := (blk_cl (k := 1) HBX.out rfl).1
        have z2 := (blk_cl (k := 0) HNo.out rfl).1
        go_wp2_with fail
        refine (contains_any A' n' c' (nth es k).after nm _ _ HDR.out (by omega)).mono ?_
        rintro e w7 ⟨rfl, rfl⟩
        rw [hc]
        go_wp2_with fail
        go_roundw
        case rel => exact ⟨k + 1, by omega, by go_num, by rw [HT.out]; exact HRq.out, ⟨HGW.out.os, HGW.out.tape, HGW.out.output, by simp; omega, fun i hi hne => (HA.out.block i (by omega)).trans (HGW.out.block i hi hne)⟩⟩
        case measure => simp [intOf]; omega
      · have hn1 : 0 < n' := by
          rw [← HDR.out.1]
          exact List.length_pos_of_mem (hasB_true.1 hc)
        have HT : Hid (curL es nm gone (k + 1) = (curL es nm gone k).set k { nth (curL es nm gone k) k with after := (Lib.compact (sortL (ofS (notName nm (nth es k).after ++ gone)))).map ofL }) := Lib.hid (by
          rw [curL_succ hke, drop_list hc, curL_at hke]; rfl)
        go_upto_region 7 with fail
        generalize wo.alloc (.cells #[.string (nth es k).name, .slice A' n' c', .bool (nth es k).undo] 75) = wq at *
        generalize hpb : wo.heap.size = pb at *
        have hpbq := heap_lt HBX.out
        have hb0q : b0 < wq.heap.size := heap_lt HNo.out
        have hpq0 : p < wq.heap.size := heap_lt HPo.out
        have hpq : wq.heap.size ≤ wq.heap.size := Nat.le_refl _
        clear d1 d2 d3 hfz
        have z1 := (blk_cl (k := 1) HBX.out rfl).1
        have z2 := (blk_cl (k := 0) HNo.out rfl).1
        go_wp2_with fail
        refine (contains_any A' n' c' (nth es k).after nm _ _ HDR.out (by omega)).mono ?_
        rintro e w7 ⟨rfl, rfl⟩
        rw [hc]
        clear z1 z2
        have HS8 : Hid (∀ w', Below wq.heap.size wq w' → (fun w' : World => w'.cell? ⟨pb, 1, none⟩ = some (.slice A' n' c') ∧ w'.cell? ⟨b1, 1, none⟩ = some (.slice G ng cg)) w') := Lib.hid (fun w' h => by
          have e1 := (h.block _ hpbq).trans HBX.out
          have e2 := (h.block _ (heap_lt HGo.out)).trans HGo.out
          exact ⟨(blk_cl (k := 1) e1 rfl).1, (blk_cl (k := 1) e2 rfl).1⟩)
        have HN8 : Hid (∀ w', Below wq.heap.size wq w' → w'.cell? ⟨b0, 0, none⟩ = some (.string nm)) := Lib.hid (fun w' h => (blk_cl (k := 0) ((h.block _ hb0q).trans HNo.out) rfl).1)
        have HS10 : Hid (∀ w', Below wq.heap.size wq w' → (fun w' : World => w'.cell? ⟨p, 1, none⟩ = some (.slice (some ⟨b, 0, none⟩) m c)) w') := Lib.hid (fun w' h => (blk_cl (k := 1) ((h.block _ hpq0).trans HPo.out) rfl).1)
        clear hc
        go_wp2_with fail
        refine wp_region_held_drew (S := fun w' : World => w'.cell? ⟨pb, 1, none⟩ = some (.slice A' n' c') ∧ w'.cell? ⟨b1, 1, none⟩ = some (.slice G ng cg)) (by kernel_rfl) (HS8.out _ (Below.refl _ _).drew) (fun hH => ?_)
        refine wpAnyH_takeE (i := 0) (d := some 47) (v := ?v305) rfl (by rfl) (by kernel_rfl) (by kernel_rfl) (by kernel_rfl) (fun _ _ _ h => h) (Or.inl ⟨by rfl, ?y305⟩) hH ?r305
        case y305 => (intro w' hS; (try dsimp only at hS); go_simp; (try with_reducible rfl))
        (try simp only [Act.put, List.setIfInBounds_toArray, List.set_cons_zero, List.set_cons_succ])
        refine wpAnyH_takeE (i := 1) (d := some 48) (v := ?v306) rfl (by rfl) (by kernel_rfl) (by kernel_rfl) (by kernel_rfl) (fun _ _ _ h => h) (Or.inl ⟨by rfl, ?y306⟩) hH ?r306
        case y306 => (intro w' hS; (try dsimp only at hS); go_simp; (try with_reducible rfl))
        (try simp only [Act.put, List.setIfInBounds_toArray, List.set_cons_zero, List.set_cons_succ])
        refine wpAnyH_takeE (i := 3) (d := some 50) (v := ?v307) rfl (by rfl) (by kernel_rfl) (by kernel_rfl) (by kernel_rfl) (fun _ _ _ h => h) (Or.inl ⟨by rfl, ?y307⟩) hH ?r307
        case y307 => (intro w' hS; (try dsimp only at hS); go_simp; (try with_reducible rfl))
        (try simp only [Act.put, List.setIfInBounds_toArray, List.set_cons_zero, List.set_cons_succ])
        refine wpAnyH_takeE (i := 5) (d := some 52) (v := ?v308) rfl (by rfl) (by kernel_rfl) (by kernel_rfl) (by kernel_rfl) (fun _ _ _ h => h) (Or.inl ⟨by rfl, ?y308⟩) hH ?r308
        case y308 => (intro w' hS; (try dsimp only at hS); go_simp; (try with_reducible rfl))
        (try simp only [Act.put, List.setIfInBounds_toArray, List.set_cons_zero, List.set_cons_succ])
        refine wpAnyH_takeE (i := 6) (d := some 53) (v := ?v309) rfl (by rfl) (by kernel_rfl) (by kernel_rfl) (by kernel_rfl) (fun _ _ _ h => h) (Or.inl ⟨by rfl, ?y309⟩) hH ?r309
        case y309 => (intro w' hS; (try dsimp only at hS); go_simp; (try with_reducible rfl))
        (try simp only [Act.put, List.setIfInBounds_toArray, List.set_cons_zero, List.set_cons_succ])
        refine wpAnyH_ready (rs := [2]) (by kernel_rfl) (by simp) ?_
        refine AllReadyH.cons rfl (fun K hK => ?_) AllReadyH.nil
        go_wp2_with fail
        go_at_call 75
        refine (cloneNames_any _ _ _ (nth es k).after _ _ (HDR.out.below (Below.refl _ _).drew) (by omega)).mono ?_
        rintro e w8 ⟨v8, rfl, how8⟩
        have HB8 := Lib.hid ((Below.refl wq.heap.size wq).drew.trans how8.below)
        obtain ⟨b3, c3, rfl, hlb3, hlt3⟩ := own_strU how8.row (by omega)
        change wq.heap.size ≤ b3 at hlb3
        have HO8 : Hid (w8.ownsRow wq.heap.size 9 1 (.slice (some ⟨b3, 0, none⟩) n' c3) n' ((ofS (nth es k).after).map encStr)) := Lib.hid (by rw [ofS_enc]; exact how8.row)
        clear how8
        go_wp2_with fail
        refine hK.out _ _ (HS8.out _ HB8.out) (fun hH2 => ?_)
        clear hK K hH
        have hH := hH2
        (try simp only [Act.put, List.setIfInBounds_toArray, List.set_cons_zero, List.set_cons_succ])
        refine wpAnyH_ready (rs := [4]) (by kernel_rfl) (by simp) ?_
        refine AllReadyH.cons rfl (fun K hK => ?_) AllReadyH.nil
        rw [if_pos (by rfl)]
        refine wp_call2 147 (.tmp 49) (.tmp 50) (.slice (some ⟨b3, 0, none⟩) n' c3) (.func (.func 148) #[] #[.pointer (some ⟨b0, 0, none⟩)]) _ rfl (enters_of Try.func147 (by kernel_rfl) rfl) rfl rfl ?_
        refine (delRow_str b3 n' c3 wq.heap.size b0 nm (ofS (nth es k).after) w8 HO8.out (by omega) (HN8.out _ HB8.out) (Nat.lt_of_lt_of_le hb0q HB8.out.size) (by omega)).mono ?_
        rintro e w9 ⟨rfl, how9, hg9⟩
        refine ⟨_, rfl, ?_⟩
        have HB9 := Lib.hid (HB8.out.grown hg9 HB8.out.size (fun k hk => by injection hk with hk; omega))
        rw [ofS_not] at how9
        rw [ofS_not]
        obtain ⟨m9, hm9⟩ : ∃ m9, m9 = (ofS (notName nm (nth es k).after)).length := ⟨_, rfl⟩
        rw [← hm9] at how9
        rw [← hm9]
        have hm9l : m9 ≤ 100 := by
          rw [hm9]; unfold ofS notName; rw [List.length_map]
          exact Nat.le_trans (List.length_filter_le _ _) (by rw [HDR.out.1]; exact hn')
        have HO9 : Hid (w9.ownsRow wq.heap.size 9 1 (.slice (some ⟨b3, 0, none⟩) m9 c3) m9 ((notName nm (nth es k).after).map Value.string)) := Lib.hid (by rw [← ofS_enc]; exact how9)
        clear how9 hm9
        refine hK.out _ _ (HS8.out _ HB9.out) (fun hH2 => ?_)
        clear hK K hH
        have hH := hH2
        (try simp only [Act.put, List.setIfInBounds_toArray, List.set_cons_zero, List.set_cons_succ])
        refine wpAnyH_ready (rs := [7]) (by kernel_rfl) (by simp) ?_
        refine AllReadyH.cons rfl (fun K hK => ?_) AllReadyH.nil
        refine wappl 29 9 1 16 _ Try.underlying29 info_str rfl (by omega) (by omega) wq.heap.size (.slice (some ⟨b3, 0, none⟩) m9 c3) m9 _ (gone.map Value.string) G ng cg HO9.out (.tmp 51) (.tmp 53) rfl rfl rfl (by rw [List.length_map, HGN.out.1]; omega) (news_str (HGN.out.below (HB9.out.mono hpq))) (by simp [Value.oneCell']) (by omega) HB9.out.size ?_
        intro v10 w10 how10 hg10 hat10
        have HB10 := Lib.hid (HB9.out.grown hg10 HB9.out.size (fun k hk => by (have : b3 = k := by simpa [Value.ownBlock] using hk); omega))
        have HO10 : Hid (w10.ownsRow wq.heap.size 9 1 v10 (m9 + ng) ((ofS (notName nm (nth es k).after ++ gone)).map encStr)) := Lib.hid (by rw [ofS_enc, List.map_append]; exact how10)
        obtain ⟨b10, c10, rfl, hlb10, hlt10⟩ := own_at10 how10 hlb3 HB9.out.size hat10
        clear how10 hg10 hat10
        refine hK.out _ _ (HS8.out _ HB10.out) (fun hH2 => ?_)
        clear hK K hH
        have hH := hH2
        (try simp only [Act.put, List.setIfInBounds_toArray, List.set_cons_zero])
        refine wpAnyH_ready (rs := [8]) (by kernel_rfl) (by simp) ?_
        refine AllReadyH.cons rfl (fun K hK => ?_) AllReadyH.nil
        go_simp
        refine hK.out _ _ (HS8.out _ HB10.out) (fun hH2 => ?_)
        clear hK K hH
        have hH := hH2
        (try simp only [Act.put, List.setIfInBounds_toArray, List.set_cons_zero, List.set_cons_succ])
        refine wpAnyH_done (by kernel_rfl) ?_ _
        go_wp2_with fail
        refine (sortRow_str b10 (m9 + ng) c10 wq.heap.size _ _ HO10.out (by omega)).mono ?_
        rintro e w11 ⟨rfl, how11, hg11⟩
        have HB11 := Lib.hid (HB10.out.grown hg11 HB10.out.size (fun k hk => by injection hk with hk; omega))
        have HO11 := Lib.hid how11
        clear how11 hg11
        go_wp2_with fail
        refine wp_region_held_drew (S := fun w' : World => w'.cell? ⟨p, 1, none⟩ = some (.slice (some ⟨b, 0, none⟩) m c)) (by kernel_rfl) (HS10.out _ (HB11.out.drew)) (fun hH => ?_)
        refine wpAnyH_takeE (i := 0) (d := some 57) (v := ?v310) rfl (by rfl) (by kernel_rfl) (by kernel_rfl) (by kernel_rfl) (fun _ _ _ h => h) (Or.inl ⟨by rfl, ?y310⟩) hH ?r310
        case y310 => (intro w' hS; (try dsimp only at hS); go_simp; (try with_reducible rfl))
        (try simp only [Act.put, List.setIfInBounds_toArray, List.set_cons_zero, List.set_cons_succ])
        refine wpAnyH_takeE (i := 1) (d := some 58) (v := ?v311) rfl (by rfl) (by kernel_rfl) (by kernel_rfl) (by kernel_rfl) (fun _ _ _ h => h) (Or.inl ⟨by rfl, ?y311⟩) hH ?r311
        case y311 => (intro w' hS; (try dsimp only at hS); go_simp; (try with_reducible rfl))
        (try simp only [Act.put, List.setIfInBounds_toArray, List.set_cons_zero, List.set_cons_succ])
        refine wpAnyH_takeE (i := 2) (d := some 59) (v := ?v312) rfl (by rfl) (by kernel_rfl) (by kernel_rfl) (by kernel_rfl) (fun _ _ _ h => h) (Or.inl ⟨by rfl, ?y312⟩) hH ?r312
        case y312 => (intro w' hS; (try dsimp only at hS); go_simp; (try with_reducible rfl))
        (try simp only [Act.put, List.setIfInBounds_toArray, List.set_cons_zero, List.set_cons_succ])
        refine wpAnyH_takeE (i := 3) (d := some 60) (v := ?v313) rfl (by rfl) (by kernel_rfl) (by kernel_rfl) (by kernel_rfl) (fun _ _ _ h => h) (Or.inl ⟨by rfl, ?y313⟩) hH ?r313
        case y313 => (intro w' hS; (try dsimp only at hS); go_simp; (try with_reducible rfl))
        (try simp only [Act.put, List.setIfInBounds_toArray, List.set_cons_zero, List.set_cons_succ])
        refine wpAnyH_takeE (i := 4) (d := some 61) (v := ?v314) rfl (by rfl) (by kernel_rfl) (by kernel_rfl) (by kernel_rfl) (fun _ _ _ h => h) (Or.inl ⟨by rfl, ?y314⟩) hH ?r314
        case y314 => (intro w' hS; (try dsimp only at hS); go_simp; (try with_reducible rfl))
        (try simp only [Act.put, List.setIfInBounds_toArray, List.set_cons_zero, List.set_cons_succ])
        refine wpAnyH_takeE (i := 5) (d := some 62) (v := ?v315) rfl (by rfl) (by kernel_rfl) (by kernel_rfl) (by kernel_rfl) (fun _ _ _ h => h) (Or.inl ⟨by rfl, ?y315⟩) hH ?r315
        case y315 => (intro w' hS; (try dsimp only at hS); go_simp; (try with_reducible rfl))
        (try simp only [Act.put, List.setIfInBounds_toArray, List.set_cons_zero, List.set_cons_succ])
        refine wpAnyH_ready (rs := [6]) (by kernel_rfl) (by simp) ?_
        refine AllReadyH.cons rfl (fun K hK => ?_) AllReadyH.nil
        go_wp2_with fail
        go_at_call 150
        refine (compactRow_str b10 (m9 + ng) c10 wq.heap.size _ w11.drew HO11.out (by omega)).mono ?_
        rintro e w12 ⟨rfl, how12, hg12⟩
        have HB12 := Lib.hid (HB11.out.drew.grown hg12 HB11.out.size (fun k hk => by injection hk with hk; omega))
        go_wp2_with fail
        refine hK.out _ _ (HS10.out _ HB12.out) (fun hH2 => ?_)
        clear hK K hH
        have hH := hH2
        (try simp only [Act.put, List.setIfInBounds_toArray, List.set_cons_zero, List.set_cons_succ])
        refine wpAnyH_takeE (i := 7) (d := some 64) (v := ?v316) rfl (by rfl) (by kernel_rfl) (by kernel_rfl) (by kernel_rfl) (fun _ _ _ h => h) (Or.inl ⟨by rfl, ?y316⟩) hH ?r316
        case y316 => (intro w' hS; (try dsimp only at hS); go_simp; (try with_reducible rfl))
        (try simp only [Act.put, List.setIfInBounds_toArray, List.set_cons_zero, List.set_cons_succ])
        refine wpAnyH_takeE (i := 8) (d := some 65) (v := ?v317) rfl (by rfl) (by kernel_rfl) (by kernel_rfl) (by kernel_rfl) (fun _ _ _ h => h) (Or.inl ⟨by rfl, ?y317⟩) hH ?r317
        case y317 => (intro w' hS; (try dsimp only at hS); go_simp; (try with_reducible rfl))
        (try simp only [Act.put, List.setIfInBounds_toArray, List.set_cons_zero, List.set_cons_succ])
        refine wpAnyH_ready (rs := [9]) (by kernel_rfl) (by simp) ?_
        refine AllReadyH.cons rfl (fun K hK => ?_) AllReadyH.nil
        obtain ⟨_, _, _, ⟨_, v2, _⟩, _, v4⟩ := (HRq.out.below HB12.out).step_at hlt
        go_simp
        (try simp only [Oper.upon])
        refine hK.out _ _ ((cellFarQ (by omega)).trans (HS10.out _ HB12.out)) (fun _ => ?_)
        clear hK K hH
        (try simp only [Act.put, List.setIfInBounds_toArray, List.set_cons_zero, List.set_cons_succ])
        refine wpAnyH_done (by kernel_rfl) ?_ _
        clear v2 v4
        have HRz := Lib.hid (HRq.out.below HB12.out)
        obtain ⟨A12, c12, e12, hs12⟩ := own_sstr (ys := (Lib.compact (sortL (ofS (notName nm (nth es k).after ++ gone)))).map ofL) (by rw [← ofL_enc]; exact how12)
        injection e12 with e12 _ e13
        subst e12; subst e13
        have hss12 := hs12.mono (base' := base) (by omega)
        have HK := Lib.hid (HRz.out.setAfter (d := c10) hlt hss12)
        have HGZ : Hid (W5.grownBy (w12.setCell ⟨b, k * 3 + 1, none⟩ (.slice (some ⟨b10, 0, none⟩) (Lib.compact (sortL (ofS (notName nm (nth es k).after ++ gone)))).length c10)) (some b)) := Lib.hid
          ⟨HB12.out.os.trans (HA.out.os.trans HGW.out.os), HB12.out.tape.trans (HA.out.tape.trans HGW.out.tape), HB12.out.output.trans (HA.out.output.trans HGW.out.output), by (have h1 := HB12.out.size; have h2 := HA.out.size; simp [World.setCell]; omega),
            fun i hi hne => (Below.heap_setCell _ _ _ _ (by intro e; exact hne (by rw [e]))).trans ((HB12.out.block i (by have h2 := HA.out.size; omega)).trans ((HA.out.block i (by omega)).trans (HGW.out.block i hi hne)))⟩
        go_wp2_with fail
        go_roundw
        case rel => exact ⟨k + 1, by omega, by go_num, by rw [HT.out]; exact HK.out, HGZ.out⟩
        case measure => simp [intOf]; omega
    · obtain rfl : k = m := by omega
      have hke : es.length ≤ k := by rw [HES.out]; exact Nat.le_refl _
      have HFIN := Lib.hid (curL_all (nm := nm) (gone := gone) hke)
      go_wp2_with fail
      go_end0
      exact ⟨rfl, grown_blk HGW.out HP5.out hnpb2, by rw [← HWO2.out, ← HFIN.out]; exact HROW.out, HT5.out.trans (But.of_grown HGW.out)⟩
end Go.Proofs.Ytakeijgoonagcaa

/- A flow without the steps whose guards are closed: the program's side. -/
namespace Go.Proofs.Ytakeijgoonagcaa
open Go.RowKit

theorem RH.but {α : Type} [Inhabited α] {E : Elem α} {w w' : World} {lo hi p n : Nat} {row : Option Nat} {A : Option Addr} {xs : List α} (h : RH E w lo hi A n xs) (hb : But p row w w') (hs : hi ≤ w.heap.size) (hp : p < lo) (hr : ∀ k, row = some k → k < lo) : RH E w' lo hi A n xs :=
  h.same ⟨fun i h1 h2 => hb.block i (by omega) (by omega) (fun e => by have := hr i e.symm; omega)⟩
theorem gf_nodup : ∀ (names : List Str) (ss : List Step), (namesOf ss).Nodup → (namesOf (gfAll ss names)).Nodup := fun names ss h => by
  rw [gf_names]; exact h.sublist List.filter_sublist

set_option maxRecDepth 100000 in
set_option maxHeartbeats 4000000 in
theorem gfI_any (A G V : Option Addr) (n c ng cg nv cv : Nat) (f : Flow) (gs : List Guard) (vs : List Int) (lo log lov : Nat) (w : World) (hr : RStep w lo A n f.steps) (hok : okSteps f.steps) (hrg : RGuard w log G ng gs) (hokg : okG gs) (hrv : RInt w lov V nv vs) (hnv : nv ≤ 1048576) :
    Calls Try.prog 42 #[.agg #[.int .i64 f.ver, .slice A n c], .slice G ng cg, .slice V nv cv] w fun e w' => ∃ B m d, e = .returned (.tuple #[.agg #[.int .i64 (gfF f gs vs).ver, .slice B m d], .bool (gfB f gs vs)]) ∧ SRow w' w.heap.size (.slice B m d) m (gfF f gs vs).steps ∧ Below w.heap.size w w' := by
  have HX := Lib.hid (heap_old (o := .cells #[.int .i64 0, .slice none 0 0] 34) (heap_new (w := w) (o := .cells #[.int .i64 f.ver, .slice A n c] 34) rfl))
  have HZ := Lib.hid (heap_new (w := w.alloc (.cells #[.int .i64 f.ver, .slice A n c] 34)) (b := w.heap.size + 1) (o := .cells #[.int .i64 0, .slice none 0 0] 34) (by simp))
  have HBW := Lib.hid (((Below.refl w.heap.size w).alloc (Nat.le_refl _) (.cells #[.int .i64 f.ver, .slice A n c] 34)).alloc (by simp) (.cells #[.int .i64 0, .slice none 0 0] 34))
  have HRW := Lib.hid ((hr.alloc (.cells #[.int .i64 f.ver, .slice A n c] 34)).alloc (.cells #[.int .i64 0, .slice none 0 0] 34)); clear hr
  have HGW := Lib.hid ((hrg.alloc (.cells #[.int .i64 f.ver, .slice A n c] 34)).alloc (.cells #[.int .i64 0, .slice none 0 0] 34)); clear hrg
  have HVW := Lib.hid ((hrv.alloc (.cells #[.int .i64 f.ver, .slice A n c] 34)).alloc (.cells #[.int .i64 0, .slice none 0 0] 34)); clear hrv
  go_enter Try.func42, Try.ntmps42
  go_upto_region 1 with fail
  generalize (w.alloc (.cells #[.int .i64 f.ver, .slice A n c] 34)).alloc (.cells #[.int .i64 0, .slice none 0 0] 34) = W at *
  have hzl := heap_lt HZ.out
  have HSF : Hid (∀ w', Below W.heap.size W w' → w'.cell? ⟨w.heap.size, 0, none⟩ = some (.int .i64 f.ver) ∧ w'.cell? ⟨w.heap.size, 1, none⟩ = some (.slice A n c)) := Lib.hid (fun w' h => by
    have e1 := (h.block _ (heap_lt HX.out)).trans HX.out
    exact ⟨(blk_cl (k := 0) e1 rfl).1, (blk_cl (k := 1) e1 rfl).1⟩)
  have HFV := Lib.hid (fun (cur : World) (h : Below W.heap.size W cur) => (flowI_any A n c f lo cur (HRW.out.below h) hok).mono (R' := fun e w' => e = .returned (.bool (flowB f)) ∧ Below W.heap.size W w') (by
    rintro e w' ⟨h1, h2⟩
    exact ⟨h1, h.trans (h2.mono h.size)⟩))
  have HGV := Lib.hid (fun (cur : World) (h : Below W.heap.size W cur) => (guardsI_any G ng cg gs log cur (HGW.out.below h) hokg).mono (R' := fun e w' => e = .returned (.bool (guardsB gs)) ∧ Below W.heap.size W w') (by
    rintro e w' ⟨h1, h2⟩
    exact ⟨h1, h.trans (h2.mono h.size)⟩))
  have HVV := Lib.hid (fun (cur : World) (h : Below W.heap.size W cur) => (varsI_any V nv cv vs lov cur (HVW.out.below h) hnv).mono (R' := fun e w' => e = .returned (.bool (varsB vs)) ∧ Below W.heap.size W w') (by
    rintro e w' ⟨h1, h2⟩
    exact ⟨h1, h2 ▸ h⟩))
  have hbw := Below.refl W.heap.size W
  obtain ⟨f0, f1⟩ := HSF.out _ hbw
  have HGB : Hid (gfB f gs vs = (flowB f && (guardsB gs && (varsB vs && flowB ⟨f.ver, gfAll f.steps (closL gs vs)⟩)))) := Lib.hid rfl
  cases hf : flowB f
  · go_upto_region 2 with (first
      | (go_at_call 47; refine (HFV.out _ hbw).mono ?_; clear f0 f1; rintro e w1 ⟨rfl, hbw⟩; (try rw [hf]); obtain ⟨f0, f1⟩ := HSF.out _ hbw)
      | (go_at_call 96; refine (HGV.out _ hbw).mono ?_; clear f0 f1; rintro e w2 ⟨rfl, hbw⟩; (try rw [hg]); obtain ⟨f0, f1⟩ := HSF.out _ hbw)
      | (go_at_call 97; refine (HVV.out _ hbw).mono ?_; clear f0 f1; rintro e w3 ⟨rfl, hbw⟩; (try rw [hv]); obtain ⟨f0, f1⟩ := HSF.out _ hbw)
      | fail "no arm")
    have HE := Lib.hid (gfF_no (by rw [HGB.out, hf]; rfl : gfB f gs vs = false))
    have HPF := Lib.hid (by rw [HGB.out, hf]; rfl : gfB f gs vs = false)
    have HZ9 := Lib.hid ((hbw.block _ (heap_lt HZ.out)).trans HZ.out)
    have z0 := (blk_cl (k := 0) HZ9.out rfl).1
    have z0' := (blk_cl (k := 0) HZ9.out rfl).2
    have z1 := (blk_cl (k := 1) HZ9.out rfl).1
    have z1' := (blk_cl (k := 1) HZ9.out rfl).2
    go_wp2_with fail
    have hres := set21 (u := .slice none 0 0) (set20 (u := .int .i64 0) HZ9.out)
    have e0 := (blk_cl (k := 0) hres rfl).1
    have e1 := (blk_cl (k := 1) hres rfl).1
    exact bodyPost_ret (v := .tuple #[.agg #[.int .i64 0, .slice none 0 0], .bool false]) (by simp [results, Try.results42, go_sem, e0, e1]) rfl ⟨none, 0, 0, by rw [HE.out, HPF.out], by rw [HE.out]; exact ⟨[], rfl, own_nil, fun p hp => by cases hp⟩, ((HBW.out.trans (hbw.mono HBW.out.size)).setCell (p := ⟨w.heap.size + 1, 0, none⟩) (by show w.heap.size ≤ w.heap.size + 1; omega) _).setCell (p := ⟨w.heap.size + 1, 1, none⟩) (by show w.heap.size ≤ w.heap.size + 1; omega) _⟩
  cases hg : guardsB gs
  · go_upto_region 2 with (first
      | (go_at_call 47; refine (HFV.out _ hbw).mono ?_; clear f0 f1; rintro e w1 ⟨rfl, hbw⟩; (try rw [hf]); obtain ⟨f0, f1⟩ := HSF.out _ hbw)
      | (go_at_call 96; refine (HGV.out _ hbw).mono ?_; clear f0 f1; rintro e w2 ⟨rfl, hbw⟩; (try rw [hg]); obtain ⟨f0, f1⟩ := HSF.out _ hbw)
      | (go_at_call 97; refine (HVV.out _ hbw).mono ?_; clear f0 f1; rintro e w3 ⟨rfl, hbw⟩; (try rw [hv]); obtain ⟨f0, f1⟩ := HSF.out _ hbw)
      | fail "no arm")
    have HE := Lib.hid (gfF_no (by rw [HGB.out, hf, hg]; rfl : gfB f gs vs = false))
    have HPF := Lib.hid (by rw [HGB.out, hf, hg]; rfl : gfB f gs vs = false)
    have HZ9 := Lib.hid ((hbw.block _ (heap_lt HZ.out)).trans HZ.out)
    have z0 := (blk_cl (k := 0) HZ9.out rfl).1
    have z0' := (blk_cl (k := 0) HZ9.out rfl).2
    have z1 := (blk_cl (k := 1) HZ9.out rfl).1
    have z1' := (blk_cl (k := 1) HZ9.out rfl).2
    go_wp2_with fail
    have hres := set21 (u := .slice none 0 0) (set20 (u := .int .i64 0) HZ9.out)
    have e0 := (blk_cl (k := 0) hres rfl).1
    have e1 := (blk_cl (k := 1) hres rfl).1
    exact bodyPost_ret (v := .tuple #[.agg #[.int .i64 0, .slice none 0 0], .bool false]) (by simp [results, Try.results42, go_sem, e0, e1]) rfl ⟨none, 0, 0, by rw [HE.out, HPF.out], by rw [HE.out]; exact ⟨[], rfl, own_nil, fun p hp => by cases hp⟩, ((HBW.out.trans (hbw.mono HBW.out.size)).setCell (p := ⟨w.heap.size + 1, 0, none⟩) (by show w.heap.size ≤ w.heap.size + 1; omega) _).setCell (p := ⟨w.heap.size + 1, 1, none⟩) (by show w.heap.size ≤ w.heap.size + 1; omega) _⟩
  cases hv : varsB vs
  · go_upto_region 2 with (first
      | (go_at_call 47; refine (HFV.out _ hbw).mono ?_; clear f0 f1; rintro e w1 ⟨rfl, hbw⟩; (try rw [hf]); obtain ⟨f0, f1⟩ := HSF.out _ hbw)
      | (go_at_call 96; refine (HGV.out _ hbw).mono ?_; clear f0 f1; rintro e w2 ⟨rfl, hbw⟩; (try rw [hg]); obtain ⟨f0, f1⟩ := HSF.out _ hbw)
      | (go_at_call 97; refine (HVV.out _ hbw).mono ?_; clear f0 f1; rintro e w3 ⟨rfl, hbw⟩; (try rw [hv]); obtain ⟨f0, f1⟩ := HSF.out _ hbw)
      | fail "no arm")
    have HE := Lib.hid (gfF_no (by rw [HGB.out, hf, hg, hv]; rfl : gfB f gs vs = false))
    have HPF := Lib.hid (by rw [HGB.out, hf, hg, hv]; rfl : gfB f gs vs = false)
    have HZ9 := Lib.hid ((hbw.block _ (heap_lt HZ.out)).trans HZ.out)
    have z0 := (blk_cl (k := 0) HZ9.out rfl).1
    have z0' := (blk_cl (k := 0) HZ9.out rfl).2
    have z1 := (blk_cl (k := 1) HZ9.out rfl).1
    have z1' := (blk_cl (k := 1) HZ9.out rfl).2
    go_wp2_with fail
    have hres := set21 (u := .slice none 0 0) (set20 (u := .int .i64 0) HZ9.out)
    have e0 := (blk_cl (k := 0) hres rfl).1
    have e1 := (blk_cl (k := 1) hres rfl).1
    exact bodyPost_ret (v := .tuple #[.agg #[.int .i64 0, .slice none 0 0], .bool false]) (by simp [results, Try.results42, go_sem, e0, e1]) rfl ⟨none, 0, 0, by rw [HE.out, HPF.out], by rw [HE.out]; exact ⟨[], rfl, own_nil, fun p hp => by cases hp⟩, ((HBW.out.trans (hbw.mono HBW.out.size)).setCell (p := ⟨w.heap.size + 1, 0, none⟩) (by show w.heap.size ≤ w.heap.size + 1; omega) _).setCell (p := ⟨w.heap.size + 1, 1, none⟩) (by show w.heap.size ≤ w.heap.size + 1; omega) _⟩
  go_upto_region 3 with (first
      | (go_at_call 47; refine (HFV.out _ hbw).mono ?_; clear f0 f1; rintro e w1 ⟨rfl, hbw⟩; (try rw [hf]); obtain ⟨f0, f1⟩ := HSF.out _ hbw)
      | (go_at_call 96; refine (HGV.out _ hbw).mono ?_; clear f0 f1; rintro e w2 ⟨rfl, hbw⟩; (try rw [hg]); obtain ⟨f0, f1⟩ := HSF.out _ hbw)
      | (go_at_call 97; refine (HVV.out _ hbw).mono ?_; clear f0 f1; rintro e w3 ⟨rfl, hbw⟩; (try rw [hv]); obtain ⟨f0, f1⟩ := HSF.out _ hbw)
      | fail "no arm")
  have HB3 := Lib.hid hbw
  have hs3 := hbw.size
  clear hbw
  have hfl := (flowB_iff.1 hf).2.2.1
  have hn1 : 0 < n := by rw [← HRW.out.1]; exact hfl.1
  go_wp2_with fail
  refine (flowClone_any _ _ _ f _ _ (HRW.out.below HB3.out) hok).mono ?_
  rintro e w4 ⟨B4, d4, rfl, hrow4, hb4⟩
  clear f0 f1
  obtain ⟨b, cur4, rfl, hbb4, hbk4, _, _, _⟩ := SRow.form hrow4 hn1
  have hbl4 := heap_lt hbk4
  clear hbk4 hfl
  have HB4 := Lib.hid (HB3.out.trans (hb4.mono hs3))
  have HR4 := Lib.hid ((hrow4.mono hs3).below ((Below.refl _ _).alloc (Nat.le_refl _) (.cells #[.int .i64 f.ver, .slice (some ⟨b, 0, none⟩) n d4] 34)))
  have HP4 := Lib.hid (heap_new (w := w4) (o := .cells #[.int .i64 f.ver, .slice (some ⟨b, 0, none⟩) n d4] 34) rfl)
  have HB4a := Lib.hid (HB4.out.alloc HB4.out.size (.cells #[.int .i64 f.ver, .slice (some ⟨b, 0, none⟩) n d4] 34))
  have hWp := HB4.out.size
  clear hrow4 hb4
  go_upto_region 4 with fail
  generalize w4.alloc (.cells #[.int .i64 f.ver, .slice (some ⟨b, 0, none⟩) n d4] 34) = W4 at *
  generalize w4.heap.size = p at *
  have hpl4 := heap_lt HP4.out
  go_wp2_with fail
  refine (closI_any _ _ _ _ _ _ gs vs _ _ _ (HGW.out.below HB4a.out) hokg (HVW.out.below HB4a.out) hnv).mono ?_
  rintro e w6 ⟨C, q, cq, rfl, hnm, hb6⟩
  have HLN : Hid (n = (gfTo f.steps (closL gs vs) 0).length) := Lib.hid HRW.out.1.symm
  have HP6 := Lib.hid ((hb6.block _ hpl4).trans HP4.out)
  have HR6 := Lib.hid (HR4.out.below hb6)
  have HB6 := Lib.hid (HB4a.out.trans (hb6.mono HB4a.out.size))
  have HN6 := Lib.hid hnm
  have HQL := Lib.hid hnm.1
  have hs6 := hb6.size
  have hq8 : q ≤ 8 := by rw [← hnm.1]; exact clos_small
  have hgd0 := good_flow hf
  have hN8 : (namesOf f.steps).length ≤ 8 := by rw [namesOf_len]; exact hgd0.2.1
  have HGD := Lib.hid (fun k => good_to (names := closL gs vs) hgd0 hN8 k)
  have HGN : Hid (∀ k, (namesOf (gfTo f.steps (closL gs vs) k)).Nodup) := Lib.hid (fun k => gf_nodup ((closL gs vs).take k) f.steps (flow_nodup hf))
  have HGA := Lib.hid (fun (k : Nat) (hk : (closL gs vs).length ≤ k) => gfTo_all (ss := f.steps) hk)
  clear hnm hb6 hgd0
  generalize hnames : closL gs vs = names at *
  have HNE := Lib.hid hnames
  clear hnames
  go_wp2_with fail
  go_loopw [31] (fun i wr => ∃ k : Nat, k ≤ q ∧ i = .int .i64 (k : Int) ∧ wr.heap[p]? = some (.cells #[.int .i64 f.ver, .slice (some ⟨b, 0, none⟩) (gfTo f.steps names k).length d4] 34) ∧ SRow wr W.heap.size (.slice (some ⟨b, 0, none⟩) (gfTo f.steps names k).length d4) (gfTo f.steps names k).length (gfTo f.steps names k) ∧ But p (some b) w6 wr) (fun i _ => q - (intOf i).toNat)
  case atStart => exact ⟨0, Nat.zero_le _, rfl, by rw [← HLN.out]; exact HP6.out, by rw [← HLN.out]; exact HR6.out, But.of_below (Below.refl _ _)⟩
  case round =>
    obtain ⟨wo, rfl⟩ : ∃ wo : World, wo = wr := ⟨_, rfl⟩
    obtain ⟨k, hk, rfl, hpb, hrow, hbo⟩ := hrel
    have HPB := Lib.hid hpb; clear hpb
    have HROW := Lib.hid hrow; clear hrow
    have HBO := Lib.hid hbo; clear hbo
    have HNM := Lib.hid ((HN6.out.low.but HBO.out (Nat.le_refl _) hpl4 (fun k hk => by injection hk with hk; omega)).up HBO.out.size)
    have HBE := Lib.hid (HB6.out.trans (HBO.out.below (base := W.heap.size) (by omega) (fun k hk => by injection hk with hk; omega) HB6.out.size))
    have hpl := heap_lt HPB.out
    have hso' := HBO.out.size
    have hm8 : (gfTo f.steps names k).length ≤ 8 := (HGD.out k).2.1
    have HSH : Hid (∀ j, j < (gfTo f.steps names k).length → (nth (gfTo f.steps names k) j).after.length ≤ 100) := Lib.hid (fun j hj => by
      have := good_short (HGD.out k) hN8 _ (mem_nth hj)
      omega)
    have x0 := (blk_cl (k := 0) HPB.out rfl).1
    have x1 := (blk_cl (k := 1) HPB.out rfl).1
    have HRS : Hid (RStep wo W.heap.size (some ⟨b, 0, none⟩) (gfTo f.steps names k).length (gfTo f.steps names k)) := Lib.hid (by obtain ⟨A9, c9, e9, h9⟩ := HROW.out.hat; cases e9; exact h9)
    by_cases hlt : k < q
    · have hkn : k < names.length := by rw [HQL.out]; exact hlt
      obtain ⟨bn, ofn, rfl, ⟨hbn1, hbn2⟩, hcn⟩ := RStr.at_ HNM.out hlt
      have q1 := (hcn k hlt).1
      clear hcn
      have hk0 : (0 : Int) ≤ (k : Int) := by omega
      have hk1 : (k : Int) < (q : Int) := by omega
      have hk2 : ¬ ((k : Int) < 0) := by omega
      have HAT := Lib.hid (at_any (some ⟨b, 0, none⟩) (gfTo f.steps names k).length d4 f.ver (gfTo f.steps names k) (nth names k) _ _ HRS.out (by omega))
      cases hh : hasB (namesOf (gfTo f.steps names k)) (nth names k)
      · have HT := Lib.hid (gfTo_no hkn hh)
        have hidx := idx_neg hh
        have hid2 : ¬ (0 ≤ idxI (namesOf (gfTo f.steps names k)) (nth names k)) := by omega
        have hid3 : decide (0 ≤ idxI (namesOf (gfTo f.steps names k)) (nth names k)) = false := by rw [decide_eq_false_iff_not]; exact hid2
        go_wp2_with fail
        refine HAT.out.mono ?_
        rintro e wa ⟨rfl, hba⟩
        generalize idxI (namesOf (gfTo f.steps names k)) (nth names k) = zi at *
        go_wp2_with fail
        go_roundw
        case rel => exact ⟨k + 1, by omega, by go_num, by rw [HT.out]; exact (hba.block _ hpl).trans HPB.out, by rw [HT.out]; exact HROW.out.below hba, HBO.out.trans (But.of_below hba)⟩
        case measure => simp [intOf]; omega
      · have HT := Lib.hid (gfTo_yes hkn hh)
        have hidx := idx_pos hh
        have hid2 : ¬ (idxI (namesOf (gfTo f.steps names k)) (nth names k) < 0) := by omega
        have hid3 : decide (0 ≤ idxI (namesOf (gfTo f.steps names k)) (nth names k)) = true := by rw [decide_eq_true_iff]; exact hidx
        have hpos : 0 < (gfTo f.steps names k).length := by
          have := (plc_ex hh).1; omega
        obtain ⟨m1, hm1⟩ : ∃ m1, (gfTo f.steps names k).length = m1 + 1 := ⟨(gfTo f.steps names k).length - 1, by omega⟩
        have HM1 := Lib.hid hm1
        have HM2 : Hid ((gfTo f.steps names (k + 1)).length = m1) := Lib.hid (by
          rw [HT.out]
          have h1 := congrArg List.length (wo_erase (HGN.out k) hh)
          rw [List.length_map, List.length_eraseIdx, if_pos (plc_ex hh).1, hm1] at h1
          omega)
        have hm88 : m1 + 1 ≤ 8 := by omega
        clear hm1
        go_wp2_with fail
        refine HAT.out.mono ?_
        rintro e wa ⟨rfl, hba⟩
        have HPa := Lib.hid ((hba.block _ hpl).trans HPB.out)
        have HROa := Lib.hid (HROW.out.below hba)
        have HBa := Lib.hid (HBO.out.trans (But.of_below hba))
        rw [HM1.out] at HPa HROa HSH
        clear x0 x1 q1
        generalize idxI (namesOf (gfTo f.steps names k)) (nth names k) = zi at *
        obtain ⟨b9, cur9, eb9, h91, h92, h93, hcm, h94⟩ := SRow.form HROa.out (by omega)
        have HCM := Lib.hid hcm
        clear hcm hba eb9 h91 h92 h93 h94
        go_wp2_with fail
        refine (drop_any p b m1 d4 f.ver (gfTo f.steps names k) (nth names k) W.heap.size wa HPa.out HROa.out (by omega) HSH.out (HGN.out k) hh (by omega) HCM.out).mono ?_
        rintro e wz ⟨rfl, hpz, hrz, hbz⟩
        have HPZ := Lib.hid hpz
        have HRZ := Lib.hid hrz
        have HBZ := Lib.hid (HBa.out.trans hbz)
        clear hpz hrz hbz
        go_wp2_with fail
        go_roundw
        case rel => exact ⟨k + 1, by omega, by go_num, by rw [HM2.out]; exact HPZ.out, by rw [HM2.out, HT.out]; exact HRZ.out, HBZ.out⟩
        case measure => simp [intOf]; omega
    · have hkq : k = q := by omega
      subst hkq
      have HGK := Lib.hid (HGA.out k (by rw [HQL.out]; exact Nat.le_refl _))
      go_wp2_with fail
      refine (flowI_any _ _ _ ⟨f.ver, gfTo f.steps names k⟩ _ _ HRS.out (HGD.out k).1).mono ?_
      rintro e w7 ⟨rfl, hb7⟩
      have HOK7 := Lib.hid (HGD.out k).1
      rw [HGK.out] at HOK7
      have HP7 := Lib.hid ((hb7.block _ hpl).trans HPB.out)
      have HR7 := Lib.hid (HRS.out.below hb7)
      rw [HGK.out] at HP7 HR7
      rw [HGK.out]
      have hbx := HBE.out.trans (hb7.mono HBE.out.size)
      clear x0 x1
      have x0 := (blk_cl (k := 0) HP7.out rfl).1
      have x1 := (blk_cl (k := 1) HP7.out rfl).1
      cases hfin : flowB ⟨f.ver, gfAll f.steps names⟩
      · have HE := Lib.hid (gfF_no (by rw [HGB.out, hf, hg, hv, hfin]; rfl : gfB f gs vs = false))
        have HPF := Lib.hid (by rw [HGB.out, hf, hg, hv, hfin]; rfl : gfB f gs vs = false)
        have HZ9 := Lib.hid ((hbx.block _ (heap_lt HZ.out)).trans HZ.out)
        have z0 := (blk_cl (k := 0) HZ9.out rfl).1
        have z0' := (blk_cl (k := 0) HZ9.out rfl).2
        have z1 := (blk_cl (k := 1) HZ9.out rfl).1
        have z1' := (blk_cl (k := 1) HZ9.out rfl).2
        go_wp2_with fail
        have hres := set21 (u := .slice none 0 0) (set20 (u := .int .i64 0) HZ9.out)
        have e0 := (blk_cl (k := 0) hres rfl).1
        have e1 := (blk_cl (k := 1) hres rfl).1
        exact bodyPost_ret (v := .tuple #[.agg #[.int .i64 0, .slice none 0 0], .bool false]) (by simp [results, Try.results42, go_sem, e0, e1]) rfl ⟨none, 0, 0, by rw [HE.out, HPF.out], by rw [HE.out]; exact ⟨[], rfl, own_nil, fun p hp => by cases hp⟩, ((HBW.out.trans (hbx.mono HBW.out.size)).setCell (p := ⟨w.heap.size + 1, 0, none⟩) (by show w.heap.size ≤ w.heap.size + 1; omega) _).setCell (p := ⟨w.heap.size + 1, 1, none⟩) (by show w.heap.size ≤ w.heap.size + 1; omega) _⟩
      · have HPT : Hid (gfB f gs vs = true) := Lib.hid (by rw [HGB.out, hf, hg, hv, hfin]; rfl)
        have HE : Hid (gfF f gs vs = ⟨f.ver, gfAll f.steps names⟩) := Lib.hid (by rw [gfF_yes HPT.out, HNE.out])
        have hsx := hbx.size
        have HBX := Lib.hid hbx
        clear hbx
        go_wp2_with fail
        refine (flowClone_any _ _ _ ⟨f.ver, gfAll f.steps names⟩ _ _ HR7.out HOK7.out).mono ?_
        rintro e w8 ⟨B8, d8, rfl, hrow8, hb8⟩
        have HBX8 := Lib.hid (HBX.out.trans (hb8.mono hsx))
        have HROW8 := Lib.hid (hrow8.mono (show w.heap.size ≤ w7.heap.size by have := HBW.out.size; omega))
        clear hrow8 hb8 x0 x1
        have HZ9 := Lib.hid ((HBX8.out.block _ (heap_lt HZ.out)).trans HZ.out)
        have z0 := (blk_cl (k := 0) HZ9.out rfl).1
        have z0' := (blk_cl (k := 0) HZ9.out rfl).2
        have z1 := (blk_cl (k := 1) HZ9.out rfl).1
        have z1' := (blk_cl (k := 1) HZ9.out rfl).2
        generalize (gfAll f.steps names).length = mm at *
        go_wp2_with fail
        have hres := set21 (u := .slice B8 mm d8) (set20 (u := .int .i64 f.ver) HZ9.out)
        have e0 := (blk_cl (k := 0) hres rfl).1
        have e1 := (blk_cl (k := 1) hres rfl).1
        exact bodyPost_ret (v := .tuple #[.agg #[.int .i64 f.ver, .slice B8 mm d8], .bool true]) (by simp [results, Try.results42, go_sem, e0, e1]) rfl ⟨B8, mm, d8, by rw [HE.out, HPT.out], by (rw [HE.out]; exact (HROW8.out.set (o := 0) (u := .int .i64 f.ver) HZ9.out (by decide) (by decide)).set (o := 1) (u := .slice B8 mm d8) (set20 HZ9.out) (by decide) (by decide)), ((HBW.out.trans (HBX8.out.mono HBW.out.size)).setCell (p := ⟨w.heap.size + 1, 0, none⟩) (by show w.heap.size ≤ w.heap.size + 1; omega) _).setCell (p := ⟨w.heap.size + 1, 1, none⟩) (by show w.heap.size ≤ w.heap.size + 1; omega) _⟩
end Go.Proofs.Ytakeijgoonagcaa

/- A step found by its name: the program's side. -/
namespace Go.Proofs.Ytakeijgoonagcaa
open Go.RowKit

theorem below_set3 {B b : Nat} {w w' : World} (h : Below B w w') (hb : B ≤ b) (u0 u1 u2 : Value) : Below B w (((w'.setCell ⟨b, 0, none⟩ u0).setCell ⟨b, 1, none⟩ u1).setCell ⟨b, 2, none⟩ u2) :=
  ((h.setCell (p := ⟨b, 0, none⟩) hb u0).setCell (p := ⟨b, 1, none⟩) hb u1).setCell (p := ⟨b, 2, none⟩) hb u2

set_option maxRecDepth 100000 in
set_option maxHeartbeats 4000000 in
theorem findI_any (A : Option Addr) (n c : Nat) (f : Flow) (x : Str) (lo : Nat) (w : World) (hr : RStep w lo A n f.steps) (hok : okSteps f.steps) :
    Calls Try.prog 46 #[.agg #[.int .i64 f.ver, .slice A n c], .string x] w fun e w' => ∃ (s : Step) (A' : Option Addr) (n' c' : Nat), e = .returned (.tuple #[.agg #[.string s.name, .slice A' n' c', .bool s.undo], .bool (flowB f && hasB (namesOf f.steps) x)]) ∧ Below w.heap.size w w' := by
  have hn : n ≤ 1048576 := by have := hok.1; rw [hr.1] at this; exact this
  have HO := Lib.hid hok; clear hok
  have HX := Lib.hid (heap_old (o := .cells #[.string ⟨#[]⟩, .slice none 0 0, .bool false] 75) (heap_new (w := w) (o := .cells #[.int .i64 f.ver, .slice A n c] 34) rfl))
  have HZ := Lib.hid (heap_new (w := w.alloc (.cells #[.int .i64 f.ver, .slice A n c] 34)) (b := w.heap.size + 1) (o := .cells #[.string ⟨#[]⟩, .slice none 0 0, .bool false] 75) (by simp))
  have HBW := Lib.hid (((Below.refl w.heap.size w).alloc (Nat.le_refl _) (.cells #[.int .i64 f.ver, .slice A n c] 34)).alloc (by simp) (.cells #[.string ⟨#[]⟩, .slice none 0 0, .bool false] 75))
  have HRL := Lib.hid hr.low
  have HRW := Lib.hid ((hr.alloc (.cells #[.int .i64 f.ver, .slice A n c] 34)).alloc (.cells #[.string ⟨#[]⟩, .slice none 0 0, .bool false] 75)); clear hr
  go_enter Try.func46, Try.ntmps46
  go_upto_region 1 with fail
  generalize (w.alloc (.cells #[.int .i64 f.ver, .slice A n c] 34)).alloc (.cells #[.string ⟨#[]⟩, .slice none 0 0, .bool false] 75) = W at *
  generalize hb0 : w.heap.size = b0 at *
  have hbW : b0 ≤ W.heap.size := by have := HBW.out.size; omega
  have HB00 := Lib.hid hb0; clear hb0
  have hzl := heap_lt HZ.out
  have f0 := (blk_cl (k := 0) HX.out rfl).1
  have f1 := (blk_cl (k := 1) HX.out rfl).1
  cases hf : flowB f
  · go_upto_region 2 with (first | (go_at_call 47; refine (flowI_any A n c f lo _ HRW.out HO.out).mono ?_; clear f0 f1; rintro e w1 ⟨rfl, hb1⟩; rw [hf]) | fail "no arm")
    have HB1 := Lib.hid hb1
    have HZ9 := Lib.hid ((HB1.out.block _ (heap_lt HZ.out)).trans HZ.out)
    have z0 := (blk_cl (k := 0) HZ9.out rfl).1
    have z0' := (blk_cl (k := 0) HZ9.out rfl).2
    have z1 := (blk_cl (k := 1) HZ9.out rfl).1
    have z1' := (blk_cl (k := 1) HZ9.out rfl).2
    have z2 := (blk_cl (k := 2) HZ9.out rfl).1
    have z2' := (blk_cl (k := 2) HZ9.out rfl).2
    go_wp2_with fail
    have hres := set3 (u0 := .string ⟨#[]⟩) (u1 := .slice none 0 0) (u2 := .bool false) HZ9.out
    have e0 := (blk_cl (k := 0) hres rfl).1
    have e1 := (blk_cl (k := 1) hres rfl).1
    have e2 := (blk_cl (k := 2) hres rfl).1
    exact bodyPost_ret (v := .tuple #[.agg #[.string ⟨#[]⟩, .slice none 0 0, .bool false], .bool false]) (by simp [results, Try.results46, go_sem, e0, e1, e2]) rfl ⟨⟨⟨#[]⟩, [], false⟩, none, 0, 0, by rw [hf, Bool.false_and], by rw [HB00.out]; exact below_set3 (HBW.out.trans (HB1.out.mono hbW)) (Nat.le_succ _) _ _ _⟩
  cases hh : hasB (namesOf f.steps) x
  · have hi := idx_neg hh
    have HHX := Lib.hid hh
    have hid3 : decide (idxI (namesOf f.steps) x < 0) = true := by rw [decide_eq_true_iff]; exact hi
    have HAT := Lib.hid (fun (cur : World) (h : Below W.heap.size W cur) => at_any A n c f.ver f.steps x lo cur (HRW.out.below h) hn)
    clear hh
    generalize idxI (namesOf f.steps) x = zi at *
    go_wp2_with (first | (go_at_call 47; refine (flowI_any A n c f lo _ HRW.out HO.out).mono ?_; clear f0 f1; rintro e w1 ⟨rfl, hb1⟩; rw [hf]; have HX1 := Lib.hid ((hb1.block _ (heap_lt HX.out)).trans HX.out); have f0 := (blk_cl (k := 0) HX1.out rfl).1; have f1 := (blk_cl (k := 1) HX1.out rfl).1) | fail "no arm")
    refine (HAT.out _ hb1).mono ?_
    rintro e w2 ⟨rfl, hb2⟩
    have HB2 := Lib.hid (hb1.trans (hb2.mono hb1.size))
    clear hb1 hb2 f0 f1
    have HZ9 := Lib.hid ((HB2.out.block _ (heap_lt HZ.out)).trans HZ.out)
    have z0 := (blk_cl (k := 0) HZ9.out rfl).1
    have z0' := (blk_cl (k := 0) HZ9.out rfl).2
    have z1 := (blk_cl (k := 1) HZ9.out rfl).1
    have z1' := (blk_cl (k := 1) HZ9.out rfl).2
    have z2 := (blk_cl (k := 2) HZ9.out rfl).1
    have z2' := (blk_cl (k := 2) HZ9.out rfl).2
    go_wp2_with fail
    have hres := set3 (u0 := .string ⟨#[]⟩) (u1 := .slice none 0 0) (u2 := .bool false) HZ9.out
    have e0 := (blk_cl (k := 0) hres rfl).1
    have e1 := (blk_cl (k := 1) hres rfl).1
    have e2 := (blk_cl (k := 2) hres rfl).1
    exact bodyPost_ret (v := .tuple #[.agg #[.string ⟨#[]⟩, .slice none 0 0, .bool false], .bool false]) (by simp [results, Try.results46, go_sem, e0, e1, e2]) rfl ⟨⟨⟨#[]⟩, [], false⟩, none, 0, 0, by rw [HHX.out, Bool.and_false], by rw [HB00.out]; exact below_set3 (HBW.out.trans (HB2.out.mono hbW)) (Nat.le_succ _) _ _ _⟩
  have HHX := Lib.hid hh
  obtain ⟨hpl, hix, hpn⟩ := plc_ex hh
  have HIX := Lib.hid hix; clear hix hpn hh
  generalize plc f.steps x = k at *
  have hkn : k < n := by rw [← HRW.out.1]; exact hpl
  have HAT := Lib.hid (fun (cur : World) (h : Below W.heap.size W cur) => (at_any A n c f.ver f.steps x lo cur (HRW.out.below h) hn).mono (R' := fun e w' => e = .returned (.int .i64 (k : Int)) ∧ Below cur.heap.size cur w') (by
    rintro e w' ⟨h1, h2⟩
    exact ⟨by rw [h1, HIX.out], h2⟩))
  have hk0 : (0 : Int) ≤ (k : Int) := by omega
  have hk1 : (k : Int) < (n : Int) := by omega
  have hk2 : ¬ ((k : Int) < 0) := by omega
  have hk3 : decide ((k : Int) < 0) = false := by rw [decide_eq_false_iff_not]; exact hk2
  go_wp2_with (first | (go_at_call 47; refine (flowI_any A n c f lo _ HRW.out HO.out).mono ?_; clear f0 f1; rintro e w1 ⟨rfl, hb1⟩; rw [hf]; have HX1 := Lib.hid ((hb1.block _ (heap_lt HX.out)).trans HX.out); have f0 := (blk_cl (k := 0) HX1.out rfl).1; have f1 := (blk_cl (k := 1) HX1.out rfl).1) | fail "no arm")
  refine (HAT.out _ hb1).mono ?_
  rintro e w2 ⟨rfl, hb2⟩
  have hb2' := hb1.trans (hb2.mono hb1.size)
  have HX2 := Lib.hid ((hb2'.block _ (heap_lt HX.out)).trans HX.out)
  have HZ2 := Lib.hid ((hb2'.block _ (heap_lt HZ.out)).trans HZ.out)
  have HRW2 := Lib.hid (HRW.out.below hb2')
  have HRL2 := Lib.hid ((HRL.out.same (Same.of_below HBW.out)).same (Same.of_below (hb2'.mono hbW)))
  have HBW2 := Lib.hid (HBW.out.trans (hb2'.mono hbW))
  clear hb1 hb2 hb2' f0 f1 HX HZ HRW HBW HAT hzl HX1 HRL
  obtain ⟨b, off, rfl, ⟨_, hbl⟩, hcc⟩ := RStep.hat HRL2.out hkn
  obtain ⟨A', n', c', ⟨d1, d2, d3⟩, hdr, _⟩ := hcc k hkn
  clear hcc
  have hn' : n' ≤ 1048576 := by rw [← hdr.1]; exact (HO.out.2 k hpl).2.1
  have hb02 := heap_lt HX2.out
  have hbW2 : b0 ≤ w2.heap.size := Nat.le_of_lt hb02
  have HDR := Lib.hid (hdr.up (Nat.le_of_lt hb02)); clear hdr
  have f0 := (blk_cl (k := 0) HX2.out rfl).1
  have f1 := (blk_cl (k := 1) HX2.out rfl).1
  have hbw2 : b < w2.heap.size := by omega
  have HSB : Hid (∀ w', Below w2.heap.size w2 w' → (fun w' : World => (w'.cell? ⟨b0, 0, none⟩ = some (.int .i64 f.ver) ∧ w'.cell? ⟨b0, 1, none⟩ = some (.slice (some ⟨b, off, none⟩) n c)) ∧ (w'.cell? ⟨b, off + k * 3, none⟩ = some (.string (nth f.steps k).name) ∧ w'.cell? ⟨b, off + k * 3 + 1, none⟩ = some (.slice A' n' c') ∧ w'.cell? ⟨b, off + k * 3 + 2, none⟩ = some (.bool (nth f.steps k).undo))) w') := Lib.hid (fun w' h => ⟨⟨(h.cell (p := ⟨b0, 0, none⟩) hb02).trans f0, (h.cell (p := ⟨b0, 1, none⟩) hb02).trans f1⟩, (h.cell (p := ⟨b, off + k * 3, none⟩) hbw2).trans d1, (h.cell (p := ⟨b, off + k * 3 + 1, none⟩) hbw2).trans d2, (h.cell (p := ⟨b, off + k * 3 + 2, none⟩) hbw2).trans d3⟩)
  have HK3 : Hid (∀ (w' : World) (u0 u1 u2 : Value), (fun w' : World => (w'.cell? ⟨b0, 0, none⟩ = some (.int .i64 f.ver) ∧ w'.cell? ⟨b0, 1, none⟩ = some (.slice (some ⟨b, off, none⟩) n c)) ∧ (w'.cell? ⟨b, off + k * 3, none⟩ = some (.string (nth f.steps k).name) ∧ w'.cell? ⟨b, off + k * 3 + 1, none⟩ = some (.slice A' n' c') ∧ w'.cell? ⟨b, off + k * 3 + 2, none⟩ = some (.bool (nth f.steps k).undo))) w' → (fun w' : World => (w'.cell? ⟨b0, 0, none⟩ = some (.int .i64 f.ver) ∧ w'.cell? ⟨b0, 1, none⟩ = some (.slice (some ⟨b, off, none⟩) n c)) ∧ (w'.cell? ⟨b, off + k * 3, none⟩ = some (.string (nth f.steps k).name) ∧ w'.cell? ⟨b, off + k * 3 + 1, none⟩ = some (.slice A' n' c') ∧ w'.cell? ⟨b, off + k * 3 + 2, none⟩ = some (.bool (nth f.steps k).undo))) (((w'.setCell ⟨b0 + 1, 0, none⟩ u0).setCell ⟨b0 + 1, 1, none⟩ u1).setCell ⟨b0 + 1, 2, none⟩ u2)) := Lib.hid (fun w' u0 u1 u2 h => by
    have n1 : b0 ≠ b0 + 1 := by omega
    have n2 : b ≠ b0 + 1 := by omega
    have e : ∀ b' o', b' ≠ b0 + 1 → (((w'.setCell ⟨b0 + 1, 0, none⟩ u0).setCell ⟨b0 + 1, 1, none⟩ u1).setCell ⟨b0 + 1, 2, none⟩ u2).cell? ⟨b', o', none⟩ = w'.cell? ⟨b', o', none⟩ := fun b' o' hne =>
      (World.cell?_setCell_other _ _ _ _ (fun e => by injection e with e; exact hne e.symm)).trans ((World.cell?_setCell_other _ _ _ _ (fun e => by injection e with e; exact hne e.symm)).trans (World.cell?_setCell_other _ _ _ _ (fun e => by injection e with e; exact hne e.symm)))
    exact ⟨⟨(e _ _ n1).trans h.1.1, (e _ _ n1).trans h.1.2⟩, (e _ _ n2).trans h.2.1, (e _ _ n2).trans h.2.2.1, (e _ _ n2).trans h.2.2.2⟩)
  clear d1 d2 d3 f0 f1
  go_wp2_with fail
  refine wp_region_held_drew (S := fun w' : World => (w'.cell? ⟨b0, 0, none⟩ = some (.int .i64 f.ver) ∧ w'.cell? ⟨b0, 1, none⟩ = some (.slice (some ⟨b, off, none⟩) n c)) ∧ (w'.cell? ⟨b, off + k * 3, none⟩ = some (.string (nth f.steps k).name) ∧ w'.cell? ⟨b, off + k * 3 + 1, none⟩ = some (.slice A' n' c') ∧ w'.cell? ⟨b, off + k * 3 + 2, none⟩ = some (.bool (nth f.steps k).undo))) (by kernel_rfl) (HSB.out _ (Below.refl _ _).drew) (fun hH => ?_)
  refine wpAnyH_takeE (i := 0) (d := some 16) (v := ?v501) rfl (by rfl) (by kernel_rfl) (by kernel_rfl) (by kernel_rfl) (fun _ _ _ h => h) (Or.inl ⟨by rfl, ?y501⟩) hH ?r501
  case y501 => (intro w' hS; (try dsimp only at hS); go_simp; (try with_reducible rfl))
  (try simp only [Act.put, List.setIfInBounds_toArray, List.set_cons_zero, List.set_cons_succ])
  refine wpAnyH_takeE (i := 1) (d := some 17) (v := ?v502) rfl (by rfl) (by kernel_rfl) (by kernel_rfl) (by kernel_rfl) (fun _ _ _ h => h) (Or.inl ⟨by rfl, ?y502⟩) hH ?r502
  case y502 => (intro w' hS; (try dsimp only at hS); go_simp; (try with_reducible rfl))
  (try simp only [Act.put, List.setIfInBounds_toArray, List.set_cons_zero, List.set_cons_succ])
  refine wpAnyH_takeE (i := 2) (d := some 18) (v := ?v503) rfl (by rfl) (by kernel_rfl) (by kernel_rfl) (by kernel_rfl) (fun _ _ _ h => h) (Or.inl ⟨by rfl, ?y503⟩) hH ?r503
  case y503 => (intro w' hS; (try dsimp only at hS); go_simp; (try with_reducible rfl))
  (try simp only [Act.put, List.setIfInBounds_toArray, List.set_cons_zero, List.set_cons_succ])
  refine wpAnyH_takeE (i := 3) (d := some 19) (v := ?v504) rfl (by rfl) (by kernel_rfl) (by kernel_rfl) (by kernel_rfl) (fun _ _ _ h => h) (Or.inl ⟨by rfl, ?y504⟩) hH ?r504
  case y504 => (intro w' hS; (try dsimp only at hS); go_simp; (try with_reducible rfl))
  (try simp only [Act.put, List.setIfInBounds_toArray, List.set_cons_zero, List.set_cons_succ])
  refine wpAnyH_ready (rs := [4]) (by kernel_rfl) (by simp) ?_
  refine AllReadyH.cons rfl (fun K hK => ?_) AllReadyH.nil
  go_wp2_with fail
  go_at_call 99
  refine (at_any _ _ _ f.ver f.steps x _ _ (HRW2.out.below (Below.refl _ _).drew) (by omega)).mono ?_
  rintro e w5 ⟨rfl, hb5⟩
  have HB5 := Lib.hid ((Below.refl w2.heap.size w2).drew.trans hb5)
  rw [HIX.out]
  go_wp2_with fail
  refine hK.out _ _ (HSB.out _ HB5.out) (fun hH2 => ?_)
  clear hK K hH
  have hH := hH2
  (try simp only [Act.put, List.setIfInBounds_toArray, List.set_cons_zero, List.set_cons_succ])
  refine wpAnyH_takeE (i := 5) (d := some 21) (v := ?v505) rfl (by rfl) (by kernel_rfl) (by kernel_rfl) (by kernel_rfl) (fun _ _ _ h => h) (Or.inl ⟨by rfl, ?y505⟩) hH ?r505
  case y505 => (intro w' hS; (try dsimp only at hS); go_simp; (try with_reducible rfl))
  (try simp only [Act.put, List.setIfInBounds_toArray, List.set_cons_zero, List.set_cons_succ])
  refine wpAnyH_takeE (i := 6) (d := some 22) (v := ?v506) rfl (by rfl) (by kernel_rfl) (by kernel_rfl) (by kernel_rfl) (fun _ _ _ h => h) (Or.inl ⟨by rfl, ?y506⟩) hH ?r506
  case y506 => (intro w' hS; (try dsimp only at hS); go_simp; (try with_reducible rfl))
  (try simp only [Act.put, List.setIfInBounds_toArray, List.set_cons_zero, List.set_cons_succ])
  refine wpAnyH_ready (rs := [7]) (by kernel_rfl) (by simp) ?_
  refine AllReadyH.cons rfl (fun K hK => ?_) AllReadyH.nil
  rw [if_pos (by rfl)]
  refine wp_call1 108 (.tmp 22) (.agg #[.string (nth f.steps k).name, .slice A' n' c', .bool (nth f.steps k).undo]) _ rfl (enters_of Try.func108 (by kernel_rfl) rfl) rfl ?_
  refine (stepClone_any A' n' c' (nth f.steps k) _ _ (HDR.out.below HB5.out) hn').mono ?_
  rintro e w6 ⟨A6, c6, rfl, hss6, hb6⟩
  refine ⟨_, rfl, ?_⟩
  have HB6 := Lib.hid (HB5.out.trans (hb6.mono HB5.out.size))
  have HZ6 := Lib.hid ((HB6.out.block _ (heap_lt HZ2.out)).trans HZ2.out)
  have z0 := (blk_cl (k := 0) HZ6.out rfl).1
  have z0' := (blk_cl (k := 0) HZ6.out rfl).2
  have z1 := (blk_cl (k := 1) HZ6.out rfl).1
  have z1' := (blk_cl (k := 1) HZ6.out rfl).2
  have z2 := (blk_cl (k := 2) HZ6.out rfl).1
  have z2' := (blk_cl (k := 2) HZ6.out rfl).2
  refine hK.out _ _ (HSB.out _ HB6.out) (fun hH2 => ?_)
  clear hK K hH
  have hH := hH2
  (try simp only [Act.put, List.setIfInBounds_toArray, List.set_cons_zero])
  refine wpAnyH_ready (rs := [8]) (by kernel_rfl) (by simp) ?_
  refine AllReadyH.cons rfl (fun K hK => ?_) AllReadyH.nil
  go_simp
  (try simp only [Oper.upon])
  refine hK.out _ _ (HK3.out _ _ _ _ (HSB.out _ HB6.out)) (fun hH2 => ?_)
  clear hK K hH
  have hH := hH2
  (try simp only [Act.put, List.setIfInBounds_toArray, List.set_cons_zero, List.set_cons_succ])
  refine wpAnyH_ready (rs := [9]) (by kernel_rfl) (by simp) ?_
  refine AllReadyH.cons rfl (fun K hK => ?_) AllReadyH.nil
  go_simp
  refine hK.out _ _ (HK3.out _ _ _ _ (HSB.out _ HB6.out)) (fun _ => ?_)
  clear hK K hH
  (try simp only [Act.put, List.setIfInBounds_toArray, List.set_cons_zero, List.set_cons_succ])
  refine wpAnyH_done (by kernel_rfl) ?_ _
  have hres := set3 (u0 := .string (nth f.steps k).name) (u1 := .slice A6 n' c6) (u2 := .bool (nth f.steps k).undo) HZ6.out
  have HRES := Lib.hid hres
  clear z0 z0' z1 z1' z2 z2' hres
  have HBF := Lib.hid (below_set3 (HBW2.out.trans (HB6.out.mono hbW2)) (Nat.le_succ b0) (.string (nth f.steps k).name) (.slice A6 n' c6) (.bool (nth f.steps k).undo))
  go_wp2_with fail
  have e0 := (blk_cl (k := 0) HRES.out rfl).1
  have e1 := (blk_cl (k := 1) HRES.out rfl).1
  have e2 := (blk_cl (k := 2) HRES.out rfl).1
  exact bodyPost_ret (v := .tuple #[.agg #[.string (nth f.steps k).name, .slice A6 n' c6, .bool (nth f.steps k).undo], .bool true]) (by simp [results, Try.results46, go_sem, e0, e1, e2]) rfl ⟨nth f.steps k, A6, n', c6, by rw [hf, HHX.out]; rfl, by rw [HB00.out]; exact HBF.out⟩
end Go.Proofs.Ytakeijgoonagcaa
