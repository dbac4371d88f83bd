/- Contracts of functions and plain lemmas, joined. No condition but those that each states. -/
import Derived.Deep.RegionHeld3
import Derived.Test.YtakeijgoonagcaaShelf
import Derived.Lib.Join
import Derived.Test.YtakeijgoonagcaaZB
import Derived.Test.YtakeijgoonagcaaZC
import Derived.Test.YtakeijgoonagcaaZA
import Derived.Test.YtakeijgoonagcaaZF

/- Runs: what can be done next, the program's side. -/
namespace Go.Proofs.Ytakeijgoonagcaa
open Go.RowKit

end Go.Proofs.Ytakeijgoonagcaa

/- Runs: a step is done, the program's side. -/
namespace Go.Proofs.Ytakeijgoonagcaa
open Go.RowKit

end Go.Proofs.Ytakeijgoonagcaa

/- Runs: a step fails, both sides. -/
namespace Go.Proofs.Ytakeijgoonagcaa
open Go.RowKit

/-- A step fails. -/
def failR (f : Flow) (st : Int) (done : List Str) (x : Str) : Int × List Str := if canB f st done x = true then (backI f.steps done done.length, done) else (0, [])
theorem failR_no {f : Flow} {st : Int} {done : List Str} {x : Str} (h : canB f st done x = false) : failR f st done x = (0, []) := by unfold failR; rw [if_neg (by rw [h]; simp)]
theorem failR_yes {f : Flow} {st : Int} {done : List Str} {x : Str} (h : canB f st done x = true) : failR f st done x = (backI f.steps done done.length, done) := by unfold failR; rw [if_pos h]
theorem can_run {f : Flow} {st : Int} {done : List Str} {x : Str} (h : canB f st done x = true) : runB f st done = true := by
  unfold canB at h
  rw [Bool.and_eq_true] at h
  exact h.1

end Go.Proofs.Ytakeijgoonagcaa

/- Runs: the last step is undone, both sides. -/
namespace Go.Proofs.Ytakeijgoonagcaa
open Go.RowKit

/-- The last step is undone. -/
def undoB (f : Flow) (st : Int) (done : List Str) : Bool := runB f st done && decide (st = 1)
def undoR (f : Flow) (st : Int) (done : List Str) : Int × List Str := if undoB f st done = true then (backI f.steps (done.take (done.length - 1)) (done.length - 1), done.take (done.length - 1)) else (0, [])
def undoN (f : Flow) (st : Int) (done : List Str) : Str := if undoB f st done = true then nth done (done.length - 1) else ⟨#[]⟩
theorem undo_no {f : Flow} {st : Int} {done : List Str} (h : undoB f st done = false) : undoR f st done = (0, []) ∧ undoN f st done = ⟨#[]⟩ := by unfold undoR undoN; rw [if_neg (by rw [h]; simp), if_neg (by rw [h]; simp)]; exact ⟨rfl, rfl⟩
theorem undo_yes {f : Flow} {st : Int} {done : List Str} {k : Nat} (h : undoB f st done = true) (hl : done.length = k + 1) : undoR f st done = (backI f.steps (done.take k) k, done.take k) ∧ undoN f st done = nth done k := by
  unfold undoR undoN
  rw [if_pos h, if_pos h, hl]
  exact ⟨rfl, rfl⟩
theorem undo_run {f : Flow} {st : Int} {done : List Str} (h : undoB f st done = true) : runB f st done = true ∧ st = 1 ∧ ∃ k, done.length = k + 1 := by
  unfold undoB at h
  simp only [Bool.and_eq_true, decide_eq_true_eq] at h
  obtain ⟨h1, rfl⟩ := h
  refine ⟨h1, rfl, done.length - 1, ?_⟩
  have h2 := h1
  unfold runB at h2
  simp at h2
  omega
theorem ord_take {ss : List Step} {done : List Str} (h : ordB ss done = true) (k : Nat) : ordB ss (done.take k) = true := by
  unfold ordB at h ⊢
  rw [allN_iff] at h ⊢
  intro j hj
  rw [List.length_take] at hj
  have h1 := h j (by omega)
  unfold ordAt at h1 ⊢
  have e1 : nth (done.take k) j = nth done j := by
    rw [nth_eq (by rw [List.length_take]; omega), nth_eq (by omega), List.getElem_take]
  have e2 : (done.take k).take j = done.take j := by rw [List.take_take]; congr 1; omega
  rw [e1, e2]
  exact h1

end Go.Proofs.Ytakeijgoonagcaa

/- Events: a run goes on by an event, both sides. -/
namespace Go.Proofs.Ytakeijgoonagcaa
open Go.RowKit

/-- A run goes on by an event. -/
def evB (f : Flow) (st : Int) (done : List Str) (k : Int) (x : Str) : Bool := if k = 1 then canB f st done x else if k = 2 then canB f st done x else if k = 3 then undoB f st done && decide (undoN f st done = x) else false
def evR (f : Flow) (st : Int) (done : List Str) (k : Int) (x : Str) : Int × List Str := if k = 1 then doR f st done x else if k = 2 then failR f st done x else if k = 3 then (if (undoB f st done && decide (undoN f st done = x)) = true then undoR f st done else (0, [])) else (0, [])
theorem ev_1 (f : Flow) (st : Int) (done : List Str) (x : Str) : evR f st done 1 x = doR f st done x ∧ evB f st done 1 x = canB f st done x := ⟨rfl, rfl⟩
theorem ev_2 (f : Flow) (st : Int) (done : List Str) (x : Str) : evR f st done 2 x = failR f st done x ∧ evB f st done 2 x = canB f st done x := ⟨rfl, rfl⟩
theorem ev_3 {f : Flow} {st : Int} {done : List Str} {x : Str} (h : undoB f st done = true) (hx : undoN f st done = x) : evR f st done 3 x = undoR f st done ∧ evB f st done 3 x = true := by
  unfold evR evB
  rw [h, hx]
  simp
theorem ev_3n {f : Flow} {st : Int} {done : List Str} {x : Str} (h : undoB f st done = false ∨ undoN f st done ≠ x) : evR f st done 3 x = (0, []) ∧ evB f st done 3 x = false := by
  unfold evR evB
  rcases h with h | h <;> simp [h]
theorem ev_no {f : Flow} {st : Int} {done : List Str} {x : Str} {k : Int} (h1 : k ≠ 1) (h2 : k ≠ 2) (h3 : k ≠ 3) : evR f st done k x = (0, []) ∧ evB f st done k x = false := by
  unfold evR evB
  rw [if_neg h1, if_neg h2, if_neg h3, if_neg h1, if_neg h2, if_neg h3]
  exact ⟨rfl, rfl⟩

end Go.Proofs.Ytakeijgoonagcaa

/- Rows of cases whose lists lie apart. -/
namespace Go.Proofs.Ytakeijgoonagcaa
open Go.RowKit

/-- Two lists lie in different blocks. -/
def dis (u v : Value) : Prop := ∀ b A m c A' m' c', u = .slice A m c → v = .slice A' m' c' → 0 < m → 0 < m' → A = some ⟨b, 0, none⟩ → A' ≠ some ⟨b, 0, none⟩
/-- A row of cases of the call's own; each list lies in a block of its own, between lo1 and hi. -/
def KRowD (w : World) (base : Nat) (av : Option Nat) (lo1 hi : Nat) (v : Value) (n : Nat) (ss : List Case) : Prop :=
  ∃ ps : List (Case × Value), ps.map (·.1) = ss ∧ w.ownsRow base 52 3 v n (ps.flatMap ccells) ∧ (∀ p ∈ ps, ∃ A m c, p.2 = .slice A m c ∧ SStr w base A m p.1.done ∧ m ≤ c ∧ ∀ b, A = some ⟨b, 0, none⟩ → 0 < m → av ≠ some b ∧ lo1 ≤ b ∧ b < hi) ∧ ps.Pairwise (fun p q => dis p.2 q.2)
theorem KRowD.rowV {w : World} {base n lo1 hi : Nat} {av : Option Nat} {v : Value} {ss : List Case} (h : KRowD w base av lo1 hi v n ss) : KRowV w base av v n ss := by
  obtain ⟨ps, e, h1, h2, _⟩ := h
  refine ⟨ps, e, h1, fun p hp => ?_⟩
  obtain ⟨A, m, c, e2, h3, h4, h5⟩ := h2 p hp
  exact ⟨A, m, c, e2, h3, h4, fun b hb hm => (h5 b hb hm).1⟩
theorem KRowD.row {w : World} {base n lo1 hi : Nat} {av : Option Nat} {v : Value} {ss : List Case} (h : KRowD w base av lo1 hi v n ss) : KRow w base v n ss := h.rowV.row
theorem KRowD.wide {w : World} {base n lo1 hi lo2 hi2 : Nat} {av : Option Nat} {v : Value} {ss : List Case} (h : KRowD w base av lo1 hi v n ss) (h1 : lo2 ≤ lo1) (h2 : hi ≤ hi2) : KRowD w base av lo2 hi2 v n ss := by
  obtain ⟨ps, e, h3, h4, h5⟩ := h
  refine ⟨ps, e, h3, fun p hp => ?_, h5⟩
  obtain ⟨A, m, c, e2, h6, h7, h8⟩ := h4 p hp
  refine ⟨A, m, c, e2, h6, h7, fun b hb hm => ?_⟩
  obtain ⟨a1, a2, a3⟩ := h8 b hb hm
  exact ⟨a1, by omega, by omega⟩
theorem KRowD.nil {w : World} {base lo1 hi : Nat} {av : Option Nat} : KRowD w base av lo1 hi (.slice none 0 0) 0 [] := ⟨[], rfl, ⟨rfl, .inl ⟨rfl, rfl⟩⟩, (fun p hp => by cases hp), List.Pairwise.nil⟩
theorem KRowD.made {w : World} {base b lo1 hi : Nat} {av : Option Nat} (hb : base ≤ w.heap.size) (e : b = w.heap.size) : KRowD (w.alloc (.cells #[] 52)) base av lo1 hi (.slice (some ⟨b, 0, none⟩) 0 0) 0 [] := by
  subst e
  exact ⟨[], rfl, World.ownsRow_made w #[] 0 hb (Nat.zero_le _) rfl, (fun p hp => by cases hp), List.Pairwise.nil⟩
theorem KRowD.below {w w' : World} {base n lo1 hi : Nat} {av : Option Nat} {v : Value} {ss : List Case} (h : KRowD w base av lo1 hi v n ss) (hb : Below w.heap.size w w') : KRowD w' base av lo1 hi v n ss := by
  obtain ⟨ps, e, h1, h2, h3⟩ := h
  refine ⟨ps, e, row_below h1 hb, fun p hp => ?_, h3⟩
  obtain ⟨A, m, c, e2, h4, h5, h6⟩ := h2 p hp
  exact ⟨A, m, c, e2, h4.below hb, h5, h6⟩
theorem KRowD.alloc {w : World} {base n lo1 hi : Nat} {av : Option Nat} {v : Value} {ss : List Case} (h : KRowD w base av lo1 hi v n ss) (o : Obj) : KRowD (w.alloc o) base av lo1 hi v n ss := h.below ((Below.refl _ _).alloc (Nat.le_refl _) o)
theorem KRowD.drew {w : World} {base n lo1 hi : Nat} {av : Option Nat} {v : Value} {ss : List Case} (h : KRowD w base av lo1 hi v n ss) : KRowD w.drew base av lo1 hi v n ss := h.below (Below.refl _ _).drew
theorem KRowD.set {w : World} {base n b o lo1 hi : Nat} {av : Option Nat} {v u : Value} {ss : List Case} {cs : Array Value} {t : TypeId} (h : KRowD w base av lo1 hi v n ss) (hb : w.heap[b]? = some (.cells cs t (0, 0))) (h1 : t ≠ 9) (h2 : t ≠ 52) :
    KRowD (w.setCell ⟨b, o, none⟩ u) base av lo1 hi v n ss := by
  obtain ⟨ps, e, h3, h4, h5⟩ := h
  refine ⟨ps, e, row_set h3 hb (Ne.symm h2), fun p hp => ?_, h5⟩
  obtain ⟨A, m, c, e2, h6, h7, h8⟩ := h4 p hp
  refine ⟨A, m, c, e2, h6.kept fun b' cs' _ hc => Below.heap_setCell w ⟨b, o, none⟩ u b' ?_, h7, h8⟩
  intro e3
  subst e3
  rw [hc] at hb
  have := Option.some.inj hb
  injection this with _ e4
  exact h1 e4.symm
/-- The row of names in the one block grows. -/
theorem KRowD.grown {w w' : World} {base n lo1 hi : Nat} {av av' : Option Nat} {v : Value} {ss : List Case} (h : KRowD w base av lo1 hi v n ss) (hg : w.grownBy w' av) (hne : ∀ b, v.ownBlock = some b → av ≠ some b) (ha : av' = av ∨ av' = some w.heap.size) : KRowD w' base av' lo1 hi v n ss := by
  obtain ⟨ps, e, h1, h2, h3⟩ := h
  refine ⟨ps, e, row_grown h1 hg hne, fun p hp => ?_, h3⟩
  obtain ⟨A, m, c, e2, h4, h5, h6⟩ := h2 p hp
  refine ⟨A, m, c, e2, h4.kept1 (fun b hb hm hl => hg.block b hl (Ne.symm (h6 b hb hm).1)), h5, fun b hb hm => ⟨fun he => ?_, (h6 b hb hm).2⟩⟩
  rcases ha with rfl | rfl
  · exact (h6 b hb hm).1 he
  · injection he with he
    have := (h4.lt hm hb).2
    omega

/-- 'out = append(out, s)'. -/
theorem wapp_caseD {w : World} {o : Oper} {a : Act} {K : Act → World → Prop} {Q : Exit → Act → World → Prop} (base lo1 hi lo2 hi2 : Nat) (av : Option Nat) (v : Value) (n : Nat) (ss : List Case) (b : Nat) (s : Case) (A : Option Addr) (m c : Nat) (hown : KRowD w base av lo1 hi v n ss) (hs0 : SStr w base A m s.done) (hmc : m ≤ c) (hl2 : lo2 ≤ lo1) (hh2 : hi ≤ hi2)
    (hav : ∀ b, A = some ⟨b, 0, none⟩ → 0 < m → av ≠ some b ∧ (hi ≤ b ∨ b < lo1) ∧ lo2 ≤ b ∧ b < hi2)
    (l x : Operand) (ho : o.op = .call { callee := .builtin .append, args := #[l, x], argTypes := #[28, 28] })
    (hs : a.eval l = v) (hx : a.eval x = .slice (some ⟨b, 0, none⟩) 1 1) (hb : w.heap[b]? = some (.cells #[.string s.name, .int .i64 s.st, .slice A m c] 52 (0, 0))) (hn : n ≤ 1048576) (hbase : base ≤ w.heap.size)
    (h : ∀ v' w', KRowD w' base av lo2 hi2 v' (n + 1) (ss ++ [s]) → w.grownBy w' v.ownBlock → (v'.ownBlock = v.ownBlock ∨ v'.ownBlock = some w.heap.size) → K (a.put o.dst v') w') : o.wp Try.prog a w K Q := by
  have hN : ∀ (b : Nat) (cs : Array Value), w.heap[b]? = some (Obj.cells cs 9 (0, 0)) → v.ownBlock ≠ some b := fun b cs hc => hown.row.ne hc (by decide)
  obtain ⟨ps, rfl, h1, h2, hpw⟩ := hown
  refine wapp 28 52 3 48 _ Try.underlying28 info_case rfl (by omega) (by omega) base v n _ (ccells (s, .slice A m c)) b h1 l x ho hs hx hb rfl ?_ hn hbase ?_
  · intro u hu; simp [ccells] at hu; rcases hu with rfl | rfl | rfl <;> rfl
  · intro v' w' h3 h4 h5
    have hk : ∀ b cs, base ≤ b → w.heap[b]? = some (.cells cs 9 (0, 0)) → w'.heap[b]? = w.heap[b]? := fun b cs _ hc => h4.block b (heap_lt hc) (Ne.symm (hN b cs hc))
    refine h v' w' ⟨ps ++ [(s, .slice A m c)], by simp, by rw [List.flatMap_append]; simpa using h3, fun p hp => ?_, ?_⟩ h4 h5
    · rcases List.mem_append.1 hp with hp | hp
      · obtain ⟨A', m', c', e, h6, h7, h8⟩ := h2 p hp
        refine ⟨A', m', c', e, h6.kept hk, h7, fun b hb hm => ?_⟩
        obtain ⟨a1, a2, a3⟩ := h8 b hb hm
        exact ⟨a1, by omega, by omega⟩
      · rw [List.mem_singleton] at hp
        subst hp
        refine ⟨A, m, c, rfl, hs0.kept hk, hmc, fun b hb hm => ?_⟩
        obtain ⟨a1, _, a3, a4⟩ := hav b hb hm
        exact ⟨a1, a3, a4⟩
    · rw [List.pairwise_append]
      refine ⟨hpw, List.pairwise_singleton .., fun p hp q hq => ?_⟩
      rw [List.mem_singleton] at hq
      subst hq
      intro b A1 m1 c1 A2 m2 c2 e1 e2 g1 g2 g3 g4
      obtain ⟨A', m', c', e, _, _, h8⟩ := h2 p hp
      rw [e] at e1
      injection e1 with i1 i2 i3
      subst i1; subst i2
      injection e2 with j1 j2 j3
      subst j1; subst j2
      obtain ⟨_, a2, a3⟩ := h8 b g3 g1
      obtain ⟨_, a5, _⟩ := hav b g4 g2
      omega
theorem app_caseD {w : World} {ops : Array Oper} {rest : List Oper} {o : Oper} {a : Act} {Q : Exit → Act → World → Prop} (base lo1 hi lo2 hi2 : Nat) (av : Option Nat) (v : Value) (n : Nat) (ss : List Case) (b : Nat) (s : Case) (A : Option Addr) (m c : Nat) (hown : KRowD w base av lo1 hi v n ss) (hs0 : SStr w base A m s.done) (hmc : m ≤ c) (hl2 : lo2 ≤ lo1) (hh2 : hi ≤ hi2)
    (hav : ∀ b, A = some ⟨b, 0, none⟩ → 0 < m → av ≠ some b ∧ (hi ≤ b ∨ b < lo1) ∧ lo2 ≤ b ∧ b < hi2)
    (hgd : o.guard = none) (l x : Operand) (ho : o.op = .call { callee := .builtin .append, args := #[l, x], argTypes := #[28, 28] })
    (hs : a.eval l = v) (hx : a.eval x = .slice (some ⟨b, 0, none⟩) 1 1) (hb : w.heap[b]? = some (.cells #[.string s.name, .int .i64 s.st, .slice A m c] 52 (0, 0))) (hn : n ≤ 1048576) (hbase : base ≤ w.heap.size)
    (h : ∀ v' w', KRowD w' base av lo2 hi2 v' (n + 1) (ss ++ [s]) → w.grownBy w' v.ownBlock → (v'.ownBlock = v.ownBlock ∨ v'.ownBlock = some w.heap.size) → wpList Try.prog ops Q rest (a.put o.dst v') w') : wpList Try.prog ops Q (o :: rest) a w :=
  wpList_plain hgd fun _ hK => wapp_caseD base lo1 hi lo2 hi2 av v n ss b s A m c hown hs0 hmc hl2 hh2 hav l x ho hs hx hb hn hbase fun v' w' h1 h2 h3 => hK _ _ (h v' w' h1 h2 h3)
theorem case_stepD {w : World} {ops : Array Oper} {o : Oper} {a : Act} {K : Act → World → Prop} {Q : Exit → Act → World → Prop} {E : Prop} (base lo1 hi lo2 hi2 : Nat) (av : Option Nat) (v : Value) (n : Nat) (ss : List Case) (b : Nat) (s : Case) (A : Option Addr) (m c : Nat) (hown : KRowD w base av lo1 hi v n ss) (hs0 : SStr w base A m s.done) (hmc : m ≤ c) (hl2 : lo2 ≤ lo1) (hh2 : hi ≤ hi2)
    (hav : ∀ b, A = some ⟨b, 0, none⟩ → 0 < m → av ≠ some b ∧ (hi ≤ b ∨ b < lo1) ∧ lo2 ≤ b ∧ b < hi2)
    (hgd : o.guard = none) (l x : Operand) (ho : o.op = .call { callee := .builtin .append, args := #[l, x], argTypes := #[28, 28] })
    (hs : a.eval l = v) (hx : a.eval x = .slice (some ⟨b, 0, none⟩) 1 1) (hb : w.heap[b]? = some (.cells #[.string s.name, .int .i64 s.st, .slice A m c] 52 (0, 0))) (hn : n ≤ 1048576) (hbase : base ≤ w.heap.size)
    (h : ∀ v' w', KRowD w' base av lo2 hi2 v' (n + 1) (ss ++ [s]) → w.grownBy w' v.ownBlock → (v'.ownBlock = v.ownBlock ∨ v'.ownBlock = some w.heap.size) → K (a.put o.dst v') w') :
    if Region.wanted o (yielded ops a.tmps) = true then Oper.wp Try.prog o a w K Q else E := by
  have hw : Region.wanted o (yielded ops a.tmps) = true := by simp [Region.wanted, hgd]
  rw [if_pos hw]
  exact wapp_caseD base lo1 hi lo2 hi2 av v n ss b s A m c hown hs0 hmc hl2 hh2 hav l x ho hs hx hb hn hbase h

/-- Cases in cells, each list in a stretch of blocks of its own. -/
structure DC (w : World) (b off n : Nat) (F : Nat → Case) (β γ : Nat → Nat) : Prop where
  lt : b < w.heap.size
  hi : ∀ j, j < n → γ j ≤ w.heap.size
  at_ : ∀ j, j < n → ∃ A' n' c', Cl w b (off + j * 3) (.string (F j).name) ∧ Cl w b (off + j * 3 + 1) (.int .i64 (F j).st) ∧ Cl w b (off + j * 3 + 2) (.slice A' n' c') ∧ RH strE w (β j) (γ j) A' n' (F j).done ∧ n' ≤ c'
  ne : ∀ j, j < n → b < β j ∨ γ j ≤ b
  dis : ∀ i j, i < n → j < n → i ≠ j → γ i ≤ β j ∨ γ j ≤ β i
def DR (w : World) (lo : Nat) (A : Option Addr) (n : Nat) (ss : List Case) : Prop :=
  ss.length = n ∧ (0 < n → ∃ b off β γ, A = some ⟨b, off, none⟩ ∧ lo ≤ b ∧ (∀ j, j < n → lo ≤ β j ∨ γ j ≤ β j) ∧ DC w b off n (nth ss) β γ)
theorem RH.at_none {α : Type} [Inhabited α] {E : Elem α} {w : World} {lo hi n : Nat} {A : Option Addr} {xs : List α} (h : RH E w lo hi A n xs) (he : hi ≤ lo) : n = 0 := by
  rcases Nat.eq_zero_or_pos n with h0 | h0
  · exact h0
  · obtain ⟨b, _, _, h1, h2, _⟩ := h.2 h0
    omega
theorem DR.hat {w : World} {lo n : Nat} {A : Option Addr} {ss : List Case} (h : DR w lo A n ss) : RCase w lo A n ss := by
  refine ⟨h.1, fun hn => ?_⟩
  obtain ⟨b, off, β, γ, e, h1, h2, h3⟩ := h.2 hn
  refine ⟨b, off, e, h1, h3.lt, fun j hj => ?_⟩
  obtain ⟨A', n', c', d1, d2, d3, d4, d5⟩ := h3.at_ j hj
  refine ⟨d1, d2, ⟨A', n', c', d3, ?_, d5⟩⟩
  rcases h2 j hj with h4 | h4
  · exact d4.wide h4 (h3.hi j hj)
  · have := d4.at_none h4
    exact ⟨d4.1, fun h => absurd h (by omega)⟩
theorem DC.kept {w w' : World} {b off n : Nat} {F : Nat → Case} {β γ : Nat → Nat} (h : DC w b off n F β γ) (hs : w.heap.size ≤ w'.heap.size) (hb : w'.heap[b]? = w.heap[b]?) (hj : ∀ j, j < n → ∀ i, β j ≤ i → i < γ j → w'.heap[i]? = w.heap[i]?) : DC w' b off n F β γ := by
  refine ⟨Nat.lt_of_lt_of_le h.lt hs, fun j hj' => Nat.le_trans (h.hi j hj') hs, fun j hj' => ?_, h.ne, h.dis⟩
  obtain ⟨A', n', c', d1, d2, d3, d4, d5⟩ := h.at_ j hj'
  have hsb : Same b (b + 1) w w' := ⟨fun i h1 h2 => by rw [show i = b by omega]; exact hb⟩
  exact ⟨A', n', c', d1.same hsb (Nat.le_refl _) (by omega), d2.same hsb (Nat.le_refl _) (by omega), d3.same hsb (Nat.le_refl _) (by omega), d4.same ⟨fun i h1 h2 => hj j hj' i h1 h2⟩, d5⟩
theorem DC.below {w w' : World} {b off n : Nat} {F : Nat → Case} {β γ : Nat → Nat} (h : DC w b off n F β γ) (hb : Below w.heap.size w w') : DC w' b off n F β γ :=
  h.kept hb.size (hb.block _ h.lt) fun j hj _ _ h2 => hb.block _ (Nat.lt_of_lt_of_le h2 (h.hi j hj))
theorem DR.below {w w' : World} {lo n : Nat} {A : Option Addr} {ss : List Case} (h : DR w lo A n ss) (hb : Below w.heap.size w w') : DR w' lo A n ss :=
  ⟨h.1, fun hn => by
    obtain ⟨b, off, β, γ, e, h1, h2, h3⟩ := h.2 hn
    exact ⟨b, off, β, γ, e, h1, h2, h3.below hb⟩⟩
theorem DR.lower {w : World} {lo lo' n : Nat} {A : Option Addr} {ss : List Case} (h : DR w lo A n ss) (hl : lo' ≤ lo) : DR w lo' A n ss :=
  ⟨h.1, fun hn => by
    obtain ⟨b, off, β, γ, e, h1, h2, h3⟩ := h.2 hn
    exact ⟨b, off, β, γ, e, by omega, fun j hj => by rcases h2 j hj with h | h; exact .inl (by omega); exact .inr h, h3⟩⟩
theorem DR.nil {w : World} {lo : Nat} {A : Option Addr} : DR w lo A 0 [] := ⟨rfl, fun h => absurd h (by omega)⟩
theorem KRowD.dr {w : World} {base n lo1 hi : Nat} {av : Option Nat} {v : Value} {ss : List Case} (h : KRowD w base av lo1 hi v n ss) : ∃ A c, v = .slice A n c ∧ DR w base A n ss ∧ n ≤ c := by
  have hl := h.row.len
  obtain ⟨A9, c9, hv9, _⟩ := h.row.hat
  have hcap : n ≤ c9 := by subst hv9; exact h.row.cap3
  obtain ⟨ps, rfl, h1, h2, hpw⟩ := h
  obtain ⟨A, c, hv, hf⟩ := own_form h1
  have hcc : c9 = c := by rw [hv9] at hv; injection hv
  refine ⟨A, c, hv, ⟨hl, fun hn => ?_⟩, by omega⟩
  obtain ⟨b, e1, b1, b2, hc⟩ := hf hn
  rw [List.length_map] at hl
  have h3 : ∀ k, k < n → ∀ i u, i < 3 → (ccells (nth ps k))[i]? = some u → Cl w b (0 + k * 3 + i) u := fun k hk i u hi hu => by
    have e2 := flat_at (α := Case × Value) (f := ccells) ccells_len ps k i (by omega) hi
    have := hc (k * 3 + i) u (by rw [e2]; exact hu)
    rwa [Nat.zero_add]
  have each : ∀ k, ∃ β γ : Nat, k < n → ∃ A m c, (nth ps k).2 = .slice A m c ∧ RH strE w β γ A m (nth ps k).1.done ∧ m ≤ c ∧ γ ≤ w.heap.size ∧ (γ = β ∨ (γ = β + 1 ∧ base ≤ β ∧ 0 < m ∧ A = some ⟨β, 0, none⟩ ∧ ∃ cs, w.heap[β]? = some (.cells cs 9 (0, 0)))) ∧ (γ = β → β = 0) := by
    intro k
    by_cases hk : k < n
    · obtain ⟨A', m, c', e2, h4, h5, _⟩ := h2 (nth ps k) (mem_nth (by omega))
      rcases Nat.eq_zero_or_pos m with h0 | h0
      · subst h0
        exact ⟨0, 0, fun _ => ⟨A', 0, c', e2, ⟨h4.1, fun h => absurd h (by omega)⟩, h5, Nat.zero_le _, .inl rfl, fun _ => rfl⟩⟩
      · obtain ⟨b', cs, e3, h6, h7, h8⟩ := h4.2 h0
        refine ⟨b', b' + 1, fun _ => ⟨A', m, c', e2, ⟨h4.1, fun _ => ?_⟩, h5, heap_lt h7, .inr ⟨rfl, h6, h0, e3, cs, h7⟩, fun h => absurd h (by omega)⟩⟩
        refine ⟨b', 0, e3, Nat.le_refl _, by omega, fun j hj => ?_⟩
        have := blk_cl h7 (h8 j hj)
        simpa [strE] using this
    · exact ⟨0, 0, fun h => absurd h hk⟩
  obtain ⟨β, γ, hβ⟩ : ∃ β γ : Nat → Nat, ∀ k, k < n → ∃ A m c, (nth ps k).2 = .slice A m c ∧ RH strE w (β k) (γ k) A m (nth ps k).1.done ∧ m ≤ c ∧ γ k ≤ w.heap.size ∧ (γ k = β k ∨ (γ k = β k + 1 ∧ base ≤ β k ∧ 0 < m ∧ A = some ⟨β k, 0, none⟩ ∧ ∃ cs, w.heap[β k]? = some (.cells cs 9 (0, 0)))) ∧ (γ k = β k → β k = 0) :=
    ⟨fun k => Classical.choose (each k), fun k => Classical.choose (Classical.choose_spec (each k)), fun k => Classical.choose_spec (Classical.choose_spec (each k))⟩
  have e3 : ∀ k, k < n → nth (ps.map (·.1)) k = (nth ps k).1 := fun k hk => by rw [nth_eq (by rw [List.length_map]; omega), nth_eq (by omega)]; simp
  have hbt : ∃ cur, w.heap[b]? = some (.cells cur 52 (0, 0)) := row_blk h1 (by rw [hv, e1]; simp [Value.ownBlock])
  obtain ⟨cur, hcur⟩ := hbt
  refine ⟨b, 0, β, γ, e1, b1, fun j hj => ?_, ⟨b2, fun j hj => ?_, fun j hj => ?_, fun j hj => ?_, fun i j hi hj hij => ?_⟩⟩
  · obtain ⟨_, _, _, _, _, _, _, h6, _⟩ := hβ j hj
    rcases h6 with h6 | ⟨_, h7, _⟩
    · exact .inr (by omega)
    · exact .inl h7
  · obtain ⟨_, _, _, _, _, _, h6, _⟩ := hβ j hj
    exact h6
  · obtain ⟨A', m, c', e2, h4, h5, _⟩ := hβ j hj
    rw [e3 j hj]
    refine ⟨A', m, c', h3 j hj 0 _ (by omega) rfl, h3 j hj 1 _ (by omega) rfl, ?_, h4, h5⟩
    have := h3 j hj 2 _ (by omega) rfl
    rwa [e2] at this
  · obtain ⟨_, _, _, _, _, _, _, h6, h8⟩ := hβ j hj
    rcases h6 with h6 | ⟨h6, _, _, _, cs, h7⟩
    · have := h8 h6; right; omega
    · have hne : b ≠ β j := fun e => by
        rw [← e, hcur] at h7
        have := Option.some.inj h7
        injection this with _ e4
        exact absurd e4 (by decide)
      omega
  · obtain ⟨Ai, mi, ci, ei, _, _, _, h6, h8⟩ := hβ i hi
    obtain ⟨Aj, mj, cj, ej, _, _, _, g6, g8⟩ := hβ j hj
    rcases h6 with h6 | ⟨h6, _, hm1, ha1, _⟩
    · have := h8 h6; left; omega
    · rcases g6 with g6 | ⟨g6, _, gm1, ga1, _⟩
      · have := g8 g6; right; omega
      · have hne : β i ≠ β j := fun e => by
          have hp := List.pairwise_iff_getElem.1 hpw
          rcases Nat.lt_or_ge i j with hl' | hl'
          · have := hp i j (by omega) (by omega) hl' (β i) Ai mi ci Aj mj cj (by rw [← nth_eq]; exact ei) (by rw [← nth_eq]; exact ej) hm1 gm1 ha1
            rw [e] at this
            exact this ga1
          · have := hp j i (by omega) (by omega) (by omega) (β j) Aj mj cj Ai mi ci (by rw [← nth_eq]; exact ej) (by rw [← nth_eq]; exact ei) gm1 hm1 ga1
            rw [← e] at this
            exact this ha1
        omega
end Go.Proofs.Ytakeijgoonagcaa

/- Texts of steps: both. -/
namespace Go.Proofs.Ytakeijgoonagcaa
open Go.RowKit

/-- The first k names with commas between them. -/
def jnS (xs : List Str) : Nat → Str
  | 0 => ⟨#[]⟩
  | k + 1 => (if 0 < k then jnS xs k ++ ⟨#[44]⟩ else jnS xs k) ++ nth xs k
def namesS (xs : List Str) : Str := if xs.length = 0 then ⟨#[45]⟩ else jnS xs xs.length
def stepS (s : Step) : Str := if s.undo then s.name ++ ⟨#[58]⟩ ++ namesS s.after else (s.name ++ ⟨#[58]⟩ ++ namesS s.after) ++ ⟨#[33]⟩
def textS (s : Step) : Str := if stepB s then stepS s else ⟨#[]⟩

theorem bl_app (a b : Str) : (a ++ b).data.toList = a.data.toList ++ b.data.toList := by simp
theorem bsz_app (a b : Str) : (a ++ b).size = a.size + b.size := by simp
theorem join_snoc (l : List (List UInt8)) (z sep : List UInt8) (h : l ≠ []) : Lib.join (l ++ [z]) sep = Lib.join l sep ++ sep ++ z := by
  cases l with
  | nil => exact absurd rfl h
  | cons x r =>
    rw [List.cons_append, Lib.join_cons, Lib.join_cons]
    simp [Lib.joinTail]
theorem jnS_list {xs : List Str} : ∀ k, k < xs.length → (jnS xs (k + 1)).data.toList = Lib.join ((xs.take (k + 1)).map (·.data.toList)) [44]
  | 0, h => by
    rw [take_nth h]
    show (jnS xs 0 ++ nth xs 0).data.toList = _
    rw [bl_app]
    simp [Lib.join_one, jnS]
  | k + 1, h => by
    rw [take_nth h, List.map_append]
    show ((if 0 < k + 1 then jnS xs (k + 1) ++ ⟨#[44]⟩ else jnS xs (k + 1)) ++ nth xs (k + 1)).data.toList = _
    rw [if_pos (by omega), bl_app, bl_app, jnS_list k (by omega)]
    have hne : (xs.take (k + 1)).map (·.data.toList) ≠ [] := by
      intro e
      have h2 : ((xs.take (k + 1)).map (·.data.toList)).length = 0 := by rw [e]; rfl
      rw [List.length_map, List.length_take] at h2
      omega
    show _ = Lib.join ((xs.take (k + 1)).map (·.data.toList) ++ [(nth xs (k + 1)).data.toList]) [44]
    rw [join_snoc _ _ _ hne]
theorem jnS_join {xs : List Str} (h : 0 < xs.length) : (⟨(Lib.join (xs.map (·.data.toList)) [44]).toArray⟩ : Str) = jnS xs xs.length := by
  have := jnS_list (xs := xs) (xs.length - 1) (by omega)
  rw [show xs.length - 1 + 1 = xs.length by omega, List.take_length] at this
  rw [← this]
theorem jnS_size {xs : List Str} {m : Nat} (h : ∀ j, j < xs.length → (nth xs j).size ≤ m) : ∀ k, k ≤ xs.length → (jnS xs k).size ≤ k * (m + 1)
  | 0, _ => Nat.zero_le _
  | k + 1, hk => by
    have h1 := jnS_size h k (by omega)
    have h2 := h k (by omega)
    show ((if 0 < k then jnS xs k ++ ⟨#[44]⟩ else jnS xs k) ++ nth xs k).size ≤ _
    rw [bsz_app, Nat.succ_mul]
    have h3 : (⟨#[44]⟩ : Str).size = 1 := rfl
    split
    · rw [bsz_app]; omega
    · omega

theorem namesS_size {xs : List Str} (h4 : xs.length ≤ 4) (h : ∀ j, j < xs.length → nameB (nth xs j) = true) : (namesS xs).size ≤ 24 := by
  unfold namesS
  split
  · show 1 ≤ 24; omega
  · have := jnS_size (xs := xs) (m := 5) (fun j hj => by
      have := h j hj
      unfold nameB at this
      simp only [Bool.and_eq_true, decide_eq_true_eq] at this
      omega) xs.length (Nat.le_refl _)
    have h2 : xs.length * (5 + 1) ≤ 4 * 6 := Nat.mul_le_mul_right _ h4
    omega
theorem nameB_size {s : Str} (h : nameB s = true) : 1 ≤ s.size ∧ s.size ≤ 5 := by
  unfold nameB at h
  simp only [Bool.and_eq_true, decide_eq_true_eq] at h
  omega
theorem stepB_sizes {s : Step} (h : stepB s = true) : s.after.length ≤ 4 ∧ (1 ≤ s.name.size ∧ s.name.size ≤ 5) ∧ ∀ j, j < s.after.length → nameB (nth s.after j) = true := by
  unfold stepB at h
  simp only [Bool.and_eq_true, decide_eq_true_eq] at h
  refine ⟨h.2, nameB_size h.1.1.2, fun j hj => ?_⟩
  have := allN_iff.1 h.1.1.1 j hj
  unfold ascAt at this
  simp only [Bool.and_eq_true] at this
  exact this.1

end Go.Proofs.Ytakeijgoonagcaa

/- Texts of runs: both. -/
namespace Go.Proofs.Ytakeijgoonagcaa
open Go.RowKit

def stateS (st : Int) : Str := if st = 0 then ⟨#[103, 111, 101, 115]⟩ else if st = 1 then ⟨#[98, 97, 99, 107]⟩ else if st = 2 then ⟨#[101, 110, 100, 101, 100]⟩ else ⟨#[117, 110, 100, 111, 110, 101]⟩
def rtS (st : Int) (done : List Str) : Str := stateS st ++ ⟨#[32]⟩ ++ namesS done
def rtT (f : Flow) (st : Int) (done : List Str) : Str := if runB f st done = true then rtS st done else ⟨#[]⟩
theorem rtT_yes {f : Flow} {st : Int} {done : List Str} (h : runB f st done = true) : rtT f st done = rtS st done := by unfold rtT; rw [if_pos h]
theorem rtT_no {f : Flow} {st : Int} {done : List Str} (h : runB f st done = false) : rtT f st done = ⟨#[]⟩ := by unfold rtT; rw [if_neg (by rw [h]; simp)]

theorem run_sizes {f : Flow} {st : Int} {done : List Str} (h : runB f st done = true) : done.length ≤ 8 ∧ ∀ j, j < done.length → nameB (nth done j) = true := by
  have ho := run_ord h
  have hf := flowB_iff.1 (run_flow h)
  refine ⟨Nat.le_trans (ord_len ho) hf.2.2.1.2, fun j hj => ?_⟩
  obtain ⟨i, hi, he⟩ := nth_of_mem (hasB_true.1 (ord_all ho j hj))
  rw [namesOf_len] at hi
  rw [namesOf_at hi] at he
  have h1 := hf.1 i hi
  simp only [stepAt, stepB, Bool.and_eq_true] at h1
  rw [← he]
  exact h1.1.1.1.1.2
theorem namesS_size8 {xs : List Str} (h8 : xs.length ≤ 8) (h : ∀ j, j < xs.length → nameB (nth xs j) = true) : (namesS xs).size ≤ 48 := by
  unfold namesS
  split
  · show 1 ≤ 48; omega
  · have := jnS_size (xs := xs) (m := 5) (fun j hj => (nameB_size (h j hj)).2) xs.length (Nat.le_refl _)
    have h2 : xs.length * (5 + 1) ≤ 8 * 6 := Nat.mul_le_mul_right _ h8
    omega
theorem stateS_size (st : Int) : (stateS st).size ≤ 6 := by
  unfold stateS
  repeat' split
  all_goals decide

theorem Below.al_ {w w' : World} (h : Below w.heap.size w w') (o : Obj) : Below w.heap.size w (w'.alloc o) := h.alloc h.size o

end Go.Proofs.Ytakeijgoonagcaa

/- FnPoolClearTwice: the walk. -/
namespace Go.Proofs.Ytakeijgoonagcaa
open Go.RowKit

theorem clL_le (f : Flow) (cs : List Case) : (clL f cs).length ≤ cs.length := by
  unfold clL
  split
  · exact stay_le cs
  · exact Nat.zero_le _
theorem gnL_le (f : Flow) (cs : List Case) : (gnL f cs).length ≤ cs.length := by
  unfold gnL
  split
  · exact gone_le cs
  · exact Nat.zero_le _

end Go.Proofs.Ytakeijgoonagcaa

/- Places of names and cases. -/
namespace Go.Proofs.Ytakeijgoonagcaa
open Go.RowKit

def caseNames (cs : List Case) : List Str := cs.map (·.name)
theorem caseNames_len (cs : List Case) : (caseNames cs).length = cs.length := List.length_map _
theorem caseNames_at {cs : List Case} {k : Nat} (hk : k < cs.length) : nth (caseNames cs) k = (nth cs k).name := by
  unfold caseNames
  rw [nth_eq (by rw [List.length_map]; exact hk), nth_eq hk]; simp

theorem placeOf_any (A : Option Addr) (n c : Nat) (xs : List Str) (s : Str) (lo : Nat) (w : World) (hr : RStr w lo A n xs) (hn : n ≤ 1048576) :
    Calls Try.prog 33 #[.slice A n c, .string s] w fun e w' => e = .returned (.int .i64 (idxI xs s)) ∧ w = w' := by
  have HR := Lib.hid hr; clear hr
  go_enter Try.func33, Try.ntmps33
  go_wp2
  go_loop [5] (fun i => ∃ k : Nat, k ≤ n ∧ i = .int .i64 k ∧ ∀ j, j < k → nth xs j ≠ s) (fun i => n - (intOf i).toNat)
  case atStart => exact ⟨0, Nat.zero_le _, rfl, fa_zero⟩
  case round =>
    obtain ⟨k, hk, rfl, hp⟩ := hrel
    have HP := Lib.hid hp; clear hp
    by_cases hlt : k < n
    · obtain ⟨b, off, rfl, _, hc⟩ := HR.out.at_ hlt
      obtain ⟨c1, _⟩ := hc k hlt
      clear hc
      by_cases he : nth xs k = s
      · have HE := Lib.hid he; clear he
        have hq := seq_t HE.out
        go_wp2
        go_ret
        exact ⟨ret_i (idxI_at HP.out (HR.out.1 ▸ hlt) HE.out).symm, rfl⟩
      · have HE := Lib.hid he; clear he
        have hq := seq_f HE.out
        go_wp2
        go_round
        case rel => exact ⟨k + 1, by omega, by go_num, fa_succ HP.out HE.out⟩
        case measure => simp [intOf]; omega
    · go_wp2
      go_ret
      exact ⟨ret_i (idxI_none (fun j hj => HP.out j (by have := HR.out.1; omega))).symm, rfl⟩
theorem caseOf_any (A : Option Addr) (n c : Nat) (cs : List Case) (s : Str) (lo : Nat) (w : World) (hr : RCase w lo A n cs) (hn : n ≤ 1048576) :
    Calls Try.prog 32 #[.slice A n c, .string s] w fun e w' => e = .returned (.int .i64 (idxI (caseNames cs) s)) ∧ w = w' := by
  have HR := Lib.hid hr; clear hr
  have HL := Lib.hid HR.out.1
  go_enter Try.func32, Try.ntmps32
  go_wp2
  go_loop [5] (fun i => ∃ k : Nat, k ≤ n ∧ i = .int .i64 k ∧ ∀ j, j < k → nth (caseNames cs) j ≠ s) (fun i => n - (intOf i).toNat)
  case atStart => exact ⟨0, Nat.zero_le _, rfl, fa_zero⟩
  case round =>
    obtain ⟨k, hk, rfl, hp⟩ := hrel
    have HP := Lib.hid hp; clear hp
    by_cases hlt : k < n
    · obtain ⟨b, off, rfl, _, hc⟩ := RCase.at_ HR.out hlt
      obtain ⟨_, _, _, ⟨c1, _⟩, _⟩ := hc k hlt
      clear hc
      rw [← caseNames_at (by rw [HL.out]; exact hlt)] at c1
      by_cases he : nth (caseNames cs) k = s
      · have HE := Lib.hid he; clear he
        have hq := seq_t HE.out
        go_wp2
        go_ret
        exact ⟨ret_i (idxI_at HP.out (by rw [caseNames_len, HL.out]; exact hlt) HE.out).symm, rfl⟩
      · have HE := Lib.hid he; clear he
        have hq := seq_f HE.out
        go_wp2
        go_round
        case rel => exact ⟨k + 1, by omega, by go_num, fa_succ HP.out HE.out⟩
        case measure => simp [intOf]; omega
    · go_wp2
      go_ret
      exact ⟨ret_i (idxI_none (fun j hj => HP.out j (by rw [caseNames_len, HL.out] at hj; omega))).symm, rfl⟩

theorem mem_names {f : Flow} {cs ds : List Case} (h : poolB f cs = true) {k : Nat} (hk : k < cs.length) (hs : ∀ c ∈ ds, c ∈ cs) : (nth cs k).name ∈ caseNames ds ↔ nth cs k ∈ ds := by
  unfold caseNames
  rw [List.mem_map]
  constructor
  · rintro ⟨c, hc, e⟩
    obtain ⟨j, hj, rfl⟩ := nth_of_mem (hs c hc)
    have := pool_names h hj hk e
    subst this
    exact hc
  · intro hc
    exact ⟨_, hc, rfl⟩
theorem stay_has {f : Flow} {cs : List Case} (h : poolB f cs = true) {k : Nat} (hk : k < cs.length) : hasB (caseNames (stayL cs)) (nth cs k).name = goesB (nth cs k) := by
  have e : stayL cs = cs.filter goesB := rfl
  rw [e, Bool.eq_iff_iff, hasB_true, mem_names h hk (fun c hc => (List.mem_filter.1 hc).1), List.mem_filter]
  exact ⟨fun h => h.2, fun h => ⟨mem_nth hk, h⟩⟩
theorem gone_has {f : Flow} {cs : List Case} (h : poolB f cs = true) {k : Nat} (hk : k < cs.length) : hasB (goneL cs) (nth cs k).name = !goesB (nth cs k) := by
  have e : goneL cs = caseNames (cs.filter fun c => !goesB c) := rfl
  rw [e, Bool.eq_iff_iff, hasB_true, mem_names h hk (fun c hc => (List.mem_filter.1 hc).1), List.mem_filter]
  exact ⟨fun h => h.2, fun h => ⟨mem_nth hk, h⟩⟩
end Go.Proofs.Ytakeijgoonagcaa
