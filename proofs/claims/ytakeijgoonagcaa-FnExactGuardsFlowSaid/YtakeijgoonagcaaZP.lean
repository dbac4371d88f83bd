/- Contracts of functions and plain lemmas, joined. No condition but those that each states. -/
import Derived.Deep.RegionHeld3
import Derived.Test.YtakeijgoonagcaaZG
import Derived.Test.YtakeijgoonagcaaZI
import Derived.Test.YtakeijgoonagcaaZN
import Derived.Test.YtakeijgoonagcaaZO
import Derived.Test.YtakeijgoonagcaaZD

/- Rows of steps whose lists lie apart, and marks on them. -/
namespace Go.Proofs.Ytakeijgoonagcaa
open Go.RowKit

/-- A row of steps of the call's own; each list lies in a block of its own, below hi. -/
def SRowD (w : World) (base hi : Nat) (v : Value) (n : Nat) (ss : List Step) : Prop :=
  ∃ ps : List (Step × Value), ps.map (·.1) = ss ∧ w.ownsRow base 75 3 v n (ps.flatMap pcells) ∧ (∀ p ∈ ps, ∃ A m c, p.2 = .slice A m c ∧ SStr w base A m p.1.after ∧ ∀ b, A = some ⟨b, 0, none⟩ → 0 < m → b < hi) ∧ ps.Pairwise (fun p q => dis p.2 q.2)
theorem SRowD.row {w : World} {base hi n : Nat} {v : Value} {ss : List Step} (h : SRowD w base hi v n ss) : SRow w base v n ss := by
  obtain ⟨ps, e, h1, h2, _⟩ := h
  refine ⟨ps, e, h1, fun p hp => ?_⟩
  obtain ⟨A, m, c, e2, h3, _⟩ := h2 p hp
  exact ⟨A, m, c, e2, h3⟩
theorem SRowD.nil {w : World} {base hi : Nat} : SRowD w base hi (.slice none 0 0) 0 [] := ⟨[], rfl, ⟨rfl, .inl ⟨rfl, rfl⟩⟩, (fun p hp => by cases hp), List.Pairwise.nil⟩
theorem SRowD.wide {w : World} {base hi hi2 n : Nat} {v : Value} {ss : List Step} (h : SRowD w base hi v n ss) (h2 : hi ≤ hi2) : SRowD w base hi2 v n ss := by
  obtain ⟨ps, e, h3, h4, h5⟩ := h
  refine ⟨ps, e, h3, fun p hp => ?_, h5⟩
  obtain ⟨A, m, c, e2, h6, h8⟩ := h4 p hp
  exact ⟨A, m, c, e2, h6, fun b hb hm => Nat.lt_of_lt_of_le (h8 b hb hm) h2⟩
theorem SRowD.mono {w : World} {base base' hi n : Nat} {v : Value} {ss : List Step} (h : SRowD w base hi v n ss) (hb : base' ≤ base) : SRowD w base' hi v n ss := by
  obtain ⟨ps, e, h3, h4, h5⟩ := h
  refine ⟨ps, e, ⟨h3.1, ?_⟩, fun p hp => ?_, h5⟩
  · rcases h3.2 with h | ⟨g, cap, cur, hv, hg, hr⟩
    · exact .inl h
    · exact .inr ⟨g, cap, cur, hv, Nat.le_trans hb hg, hr⟩
  · obtain ⟨A, m, c, e2, h6, h8⟩ := h4 p hp
    exact ⟨A, m, c, e2, h6.mono hb, h8⟩
theorem SRowD.below {w w' : World} {base hi n : Nat} {v : Value} {ss : List Step} (h : SRowD w base hi v n ss) (hb : Below w.heap.size w w') : SRowD w' base hi v n ss := by
  obtain ⟨ps, e, h1, h2, h3⟩ := h
  refine ⟨ps, e, row_below h1 hb, fun p hp => ?_, h3⟩
  obtain ⟨A, m, c, e2, h4, h6⟩ := h2 p hp
  exact ⟨A, m, c, e2, h4.below hb, h6⟩
theorem SRowD.set {w : World} {base hi n b o : Nat} {v u : Value} {ss : List Step} {cs : Array Value} {t : TypeId} (h : SRowD w base hi v n ss) (hb : w.heap[b]? = some (.cells cs t (0, 0))) (h1 : t ≠ 9) (h2 : t ≠ 75) :
    SRowD (w.setCell ⟨b, o, none⟩ u) base hi v n ss := by
  obtain ⟨ps, e, h3, h4, h5⟩ := h
  refine ⟨ps, e, row_set h3 hb (Ne.symm h2), fun p hp => ?_, h5⟩
  obtain ⟨A, m, c, e2, h6, h8⟩ := h4 p hp
  refine ⟨A, m, c, e2, h6.kept fun b' cs' _ hc => Below.heap_setCell w ⟨b, o, none⟩ u b' ?_, h8⟩
  intro e3
  subst e3
  rw [hc] at hb
  have := Option.some.inj hb
  injection this with _ e4
  exact h1 e4.symm
theorem SRowD.lt {w : World} {base hi n b : Nat} {A : Option Addr} {c : Nat} {ss : List Step} (h : SRowD w base hi (.slice A n c) n ss) (hA : (Value.slice A n c).ownBlock = some b) : base ≤ b ∧ b < w.heap.size := SRow.lt h.row hA
theorem SRowD.ne {w : World} {base hi n b : Nat} {v : Value} {ss : List Step} {cs : Array Value} {t : TypeId} {fr : Nat × Nat} (h : SRowD w base hi v n ss) (hb : w.heap[b]? = some (.cells cs t fr)) (ht : 75 ≠ t) : v.ownBlock ≠ some b := h.row.ne hb ht
theorem SRowD.hat {w : World} {base hi n : Nat} {v : Value} {ss : List Step} (h : SRowD w base hi v n ss) : ∃ A c, v = .slice A n c ∧ RStep w base A n ss := h.row.hat
/-- 'out = append(out, s)' where the step's list lies behind all others. -/
theorem wapp_stepD {w : World} {o : Oper} {a : Act} {K : Act → World → Prop} {Q : Exit → Act → World → Prop} (base hi hi2 : Nat) (v : Value) (n : Nat) (ss : List Step) (b : Nat) (s : Step) (A : Option Addr) (m c : Nat) (hown : SRowD w base hi v n ss) (hs0 : SStr w base A m s.after)
    (hav : ∀ b, A = some ⟨b, 0, none⟩ → 0 < m → hi ≤ b ∧ b < hi2) (hh : hi ≤ hi2)
    (l x : Operand) (ho : o.op = .call { callee := .builtin .append, args := #[l, x], argTypes := #[32, 32] })
    (hs : a.eval l = v) (hx : a.eval x = .slice (some ⟨b, 0, none⟩) 1 1) (hb : w.heap[b]? = some (.cells #[.string s.name, .slice A m c, .bool s.undo] 75 (0, 0))) (hn : n ≤ 1048576) (hbase : base ≤ w.heap.size)
    (h : ∀ v' w', SRowD w' base hi2 v' (n + 1) (ss ++ [s]) → w.grownBy w' v.ownBlock → (v'.ownBlock = v.ownBlock ∨ v'.ownBlock = some w.heap.size) → K (a.put o.dst v') w') : o.wp Try.prog a w K Q := by
  have hN : ∀ (b : Nat) (cs : Array Value), w.heap[b]? = some (Obj.cells cs 9 (0, 0)) → v.ownBlock ≠ some b := fun b cs hc => hown.row.ne hc (by decide)
  obtain ⟨ps, rfl, h1, h2, hpw⟩ := hown
  refine wapp 32 75 3 48 _ Try.underlying32 info_step rfl (by omega) (by omega) base v n _ (pcells (s, .slice A m c)) b h1 l x ho hs hx hb rfl ?_ hn hbase ?_
  · intro u hu; simp [pcells] at hu; rcases hu with rfl | rfl | rfl <;> rfl
  · intro v' w' h3 h4 h5
    have hk : ∀ b cs, base ≤ b → w.heap[b]? = some (.cells cs 9 (0, 0)) → w'.heap[b]? = w.heap[b]? := fun b cs _ hc => h4.block b (heap_lt hc) (Ne.symm (hN b cs hc))
    refine h v' w' ⟨ps ++ [(s, .slice A m c)], by simp, by rw [List.flatMap_append]; simpa using h3, fun p hp => ?_, ?_⟩ h4 h5
    · rcases List.mem_append.1 hp with hp | hp
      · obtain ⟨A', m', c', e, h6, h8⟩ := h2 p hp
        exact ⟨A', m', c', e, h6.kept hk, fun b hb hm => Nat.lt_of_lt_of_le (h8 b hb hm) hh⟩
      · rw [List.mem_singleton] at hp
        subst hp
        exact ⟨A, m, c, rfl, hs0.kept hk, fun b hb hm => (hav b hb hm).2⟩
    · rw [List.pairwise_append]
      refine ⟨hpw, List.pairwise_singleton .., fun p hp q hq => ?_⟩
      rw [List.mem_singleton] at hq
      subst hq
      intro b A1 m1 c1 A2 m2 c2 e1 e2 g1 g2 g3 g4
      obtain ⟨A', m', c', e, _, h8⟩ := h2 p hp
      rw [e] at e1
      injection e1 with i1 i2 i3
      subst i1; subst i2
      injection e2 with j1 j2 j3
      subst j1; subst j2
      have a2 := h8 b g3 g1
      have a5 := (hav b g4 g2).1
      omega

/-- Steps in cells, each list in a stretch of blocks of its own. -/
structure DS (w : World) (b off n : Nat) (F : Nat → Step) (β γ : Nat → Nat) : Prop where
  lt : b < w.heap.size
  hi : ∀ j, j < n → γ j ≤ w.heap.size
  at_ : ∀ j, j < n → ∃ A' n' c', Cl w b (off + j * 3) (.string (F j).name) ∧ Cl w b (off + j * 3 + 1) (.slice A' n' c') ∧ Cl w b (off + j * 3 + 2) (.bool (F j).undo) ∧ RH strE w (β j) (γ j) A' n' (F j).after
  ne : ∀ j, j < n → b < β j ∨ γ j ≤ b
  dis : ∀ i j, i < n → j < n → i ≠ j → γ i ≤ β j ∨ γ j ≤ β i
def DSR (w : World) (lo hi : Nat) (A : Option Addr) (n : Nat) (ss : List Step) : Prop :=
  ss.length = n ∧ (0 < n → ∃ b off β γ, A = some ⟨b, off, none⟩ ∧ (lo ≤ b ∧ b < hi ∧ ∀ j, j < n → γ j ≤ hi) ∧ (∀ j, j < n → lo ≤ β j ∨ γ j ≤ β j) ∧ DS w b off n (nth ss) β γ)
theorem DSR.hat {w : World} {lo hi n : Nat} {A : Option Addr} {ss : List Step} (h : DSR w lo hi A n ss) : RStep w lo A n ss := by
  refine ⟨h.1, fun hn => ?_⟩
  obtain ⟨b, off, β, γ, e, ⟨h1, _, _⟩, h2, h3⟩ := h.2 hn
  refine ⟨b, off, e, h1, h3.lt, fun j hj => ?_⟩
  obtain ⟨A', n', c', d1, d2, d3, d4⟩ := h3.at_ j hj
  refine ⟨d1, ⟨A', n', c', d2, ?_⟩, d3⟩
  rcases h2 j hj with h4 | h4
  · exact d4.wide h4 (h3.hi j hj)
  · have := d4.at_none h4
    exact ⟨d4.1, fun h => absurd h (by omega)⟩
theorem DS.kept {w w' : World} {b off n : Nat} {F : Nat → Step} {β γ : Nat → Nat} (h : DS w b off n F β γ) (hs : w.heap.size ≤ w'.heap.size) (hb : w'.heap[b]? = w.heap[b]?) (hj : ∀ j, j < n → ∀ i, β j ≤ i → i < γ j → w'.heap[i]? = w.heap[i]?) : DS w' b off n F β γ := by
  refine ⟨Nat.lt_of_lt_of_le h.lt hs, fun j hj' => Nat.le_trans (h.hi j hj') hs, fun j hj' => ?_, h.ne, h.dis⟩
  obtain ⟨A', n', c', d1, d2, d3, d4⟩ := h.at_ j hj'
  have hsb : Same b (b + 1) w w' := ⟨fun i h1 h2 => by rw [show i = b by omega]; exact hb⟩
  exact ⟨A', n', c', d1.same hsb (Nat.le_refl _) (by omega), d2.same hsb (Nat.le_refl _) (by omega), d3.same hsb (Nat.le_refl _) (by omega), d4.same ⟨fun i h1 h2 => hj j hj' i h1 h2⟩⟩
theorem DS.below {w w' : World} {b off n : Nat} {F : Nat → Step} {β γ : Nat → Nat} (h : DS w b off n F β γ) (hb : Below w.heap.size w w') : DS w' b off n F β γ :=
  h.kept hb.size (hb.block _ h.lt) fun j hj _ _ h2 => hb.block _ (Nat.lt_of_lt_of_le h2 (h.hi j hj))
theorem DSR.below {w w' : World} {lo hi n : Nat} {A : Option Addr} {ss : List Step} (h : DSR w lo hi A n ss) (hb : Below w.heap.size w w') : DSR w' lo hi A n ss :=
  ⟨h.1, fun hn => by
    obtain ⟨b, off, β, γ, e, h1, h2, h3⟩ := h.2 hn
    exact ⟨b, off, β, γ, e, h1, h2, h3.below hb⟩⟩
theorem DSR.out {w w' : World} {lo hi lo1 hi1 n : Nat} {A : Option Addr} {ss : List Step} (h : DSR w lo hi A n ss) (ho : Out lo1 hi1 w w') (hd : hi1 ≤ lo) : DSR w' lo hi A n ss :=
  ⟨h.1, fun hn => by
    obtain ⟨b, off, β, γ, e, h1, h2, h3⟩ := h.2 hn
    have h1a := h1.1
    refine ⟨b, off, β, γ, e, h1, h2, h3.kept ho.size (ho.block b h3.lt (.inr (by omega))) fun j hj i g1 g2 => ho.block i (Nat.lt_of_lt_of_le g2 (h3.hi j hj)) (.inr ?_)⟩
    rcases h2 j hj with g | g <;> omega⟩
theorem DSR.nil {w : World} {lo hi : Nat} {A : Option Addr} : DSR w lo hi A 0 [] := ⟨rfl, fun h => absurd h (by omega)⟩
theorem SRowD.dr {w : World} {base n hi : Nat} {v : Value} {ss : List Step} (h : SRowD w base hi v n ss) : ∃ A c, v = .slice A n c ∧ DSR w base w.heap.size A n ss := by
  have hl := h.row.len
  obtain ⟨ps, rfl, h1, h2, hpw⟩ := h
  obtain ⟨A, c, hv, hf⟩ := own_form h1
  refine ⟨A, c, hv, hl, fun hn => ?_⟩
  obtain ⟨b, e1, b1, b2, hc⟩ := hf hn
  rw [List.length_map] at hl
  have h3 : ∀ k, k < n → ∀ i u, i < 3 → (pcells (nth ps k))[i]? = some u → Cl w b (0 + k * 3 + i) u := fun k hk i u hi hu => by
    have e2 := flat_at (α := Step × Value) (f := pcells) pcells_len ps k i (by omega) hi
    have := hc (k * 3 + i) u (by rw [e2]; exact hu)
    rwa [Nat.zero_add]
  have each : ∀ k, ∃ β γ : Nat, k < n → ∃ A m c, (nth ps k).2 = .slice A m c ∧ RH strE w β γ A m (nth ps k).1.after ∧ γ ≤ w.heap.size ∧ (γ = β ∨ (γ = β + 1 ∧ base ≤ β ∧ 0 < m ∧ A = some ⟨β, 0, none⟩ ∧ ∃ cs, w.heap[β]? = some (.cells cs 9 (0, 0)))) ∧ (γ = β → β = 0) := by
    intro k
    by_cases hk : k < n
    · obtain ⟨A', m, c', e2, h4, _⟩ := h2 (nth ps k) (mem_nth (by omega))
      rcases Nat.eq_zero_or_pos m with h0 | h0
      · subst h0
        exact ⟨0, 0, fun _ => ⟨A', 0, c', e2, ⟨h4.1, fun h => absurd h (by omega)⟩, Nat.zero_le _, .inl rfl, fun _ => rfl⟩⟩
      · obtain ⟨b', cs, e3, h6, h7, h8⟩ := h4.2 h0
        refine ⟨b', b' + 1, fun _ => ⟨A', m, c', e2, ⟨h4.1, fun _ => ?_⟩, heap_lt h7, .inr ⟨rfl, h6, h0, e3, cs, h7⟩, fun h => absurd h (by omega)⟩⟩
        refine ⟨b', 0, e3, Nat.le_refl _, by omega, fun j hj => ?_⟩
        have := blk_cl h7 (h8 j hj)
        simpa [strE] using this
    · exact ⟨0, 0, fun h => absurd h hk⟩
  obtain ⟨β, γ, hβ⟩ : ∃ β γ : Nat → Nat, ∀ k, k < n → ∃ A m c, (nth ps k).2 = .slice A m c ∧ RH strE w (β k) (γ k) A m (nth ps k).1.after ∧ γ k ≤ w.heap.size ∧ (γ k = β k ∨ (γ k = β k + 1 ∧ base ≤ β k ∧ 0 < m ∧ A = some ⟨β k, 0, none⟩ ∧ ∃ cs, w.heap[β k]? = some (.cells cs 9 (0, 0)))) ∧ (γ k = β k → β k = 0) :=
    ⟨fun k => Classical.choose (each k), fun k => Classical.choose (Classical.choose_spec (each k)), fun k => Classical.choose_spec (Classical.choose_spec (each k))⟩
  have e3 : ∀ k, k < n → nth (ps.map (·.1)) k = (nth ps k).1 := fun k hk => by rw [nth_eq (by rw [List.length_map]; omega), nth_eq (by omega)]; simp
  have hbt : ∃ cur, w.heap[b]? = some (.cells cur 75 (0, 0)) := row_blk h1 (by rw [hv, e1]; simp [Value.ownBlock])
  obtain ⟨cur, hcur⟩ := hbt
  have hgm : ∀ j, j < n → γ j ≤ w.heap.size := fun j hj => by
    obtain ⟨_, _, _, _, _, h6, _⟩ := hβ j hj
    exact h6
  refine ⟨b, 0, β, γ, e1, ⟨b1, b2, hgm⟩, fun j hj => ?_, ⟨b2, hgm, fun j hj => ?_, fun j hj => ?_, fun i j hi hj hij => ?_⟩⟩
  · obtain ⟨_, _, _, _, _, _, h6, _⟩ := hβ j hj
    rcases h6 with h6 | ⟨_, h7, _⟩
    · exact .inr (by omega)
    · exact .inl h7
  · obtain ⟨A', m, c', e2, h4, _⟩ := hβ j hj
    rw [e3 j hj]
    have d2 := h3 j hj 1 _ (by omega) rfl
    rw [e2] at d2
    exact ⟨A', m, c', h3 j hj 0 _ (by omega) rfl, d2, h3 j hj 2 _ (by omega) rfl, h4⟩
  · obtain ⟨_, _, _, _, _, _, h6, h8⟩ := hβ j hj
    rcases h6 with h6 | ⟨h6, _, _, _, cs, h7⟩
    · have := h8 h6; right; omega
    · have hne : b ≠ β j := fun e => by
        rw [← e, hcur] at h7
        have := Option.some.inj h7
        injection this with _ e4
        exact absurd e4 (by decide)
      omega
  · obtain ⟨Ai, mi, ci, ei, _, _, h6, h8⟩ := hβ i hi
    obtain ⟨Aj, mj, cj, ej, _, _, g6, g8⟩ := hβ j hj
    rcases h6 with h6 | ⟨h6, _, hm1, ha1, _⟩
    · have := h8 h6; left; omega
    · rcases g6 with g6 | ⟨g6, _, gm1, ga1, _⟩
      · have := g8 g6; right; omega
      · have hne : β i ≠ β j := fun e => by
          have hp := List.pairwise_iff_getElem.1 hpw
          rcases Nat.lt_or_ge i j with hl' | hl'
          · have := hp i j (by omega) (by omega) hl' (β i) Ai mi ci Aj mj cj (by rw [← nth_eq]; exact ei) (by rw [← nth_eq]; exact ej) hm1 gm1 ha1
            rw [e] at this
            exact this ga1
          · have := hp j i (by omega) (by omega) (by omega) (β j) Aj mj cj Ai mi ci (by rw [← nth_eq]; exact ej) (by rw [← nth_eq]; exact ei) gm1 hm1 ga1
            rw [← e] at this
            exact this ha1
        omega

/-- Where the marks of a step begin. -/
def mkS (F : Nat → Step) (k : Nat) : Nat → Nat
  | 0 => k
  | j + 1 => mkS F k j + 2 + (F j).after.length
def mrkB (m : Nat) : Bool := ((m : Int) % 3) == 0
def mkSF (F : Nat → Step) (k : Nat) (j : Nat) : Step := ⟨markS (mkS F k j), marksS (mkS F k j + 1) (F j).after.length, mrkB (mkS F k j + 1 + (F j).after.length)⟩
theorem mkS_lo (F : Nat → Step) (k : Nat) : ∀ j, k ≤ mkS F k j
  | 0 => Nat.le_refl _
  | j + 1 => by have := mkS_lo F k j; show k ≤ mkS F k j + 2 + _; omega
theorem mkS_hi {F : Nat → Step} {k n : Nat} (h : ∀ j, j < n → (F j).after.length ≤ 1000) : ∀ j, j ≤ n → mkS F k j ≤ k + j * 1002
  | 0, _ => by show k ≤ _; omega
  | j + 1, hj => by have h2 := mkS_hi (k := k) h j (by omega); have := h j (by omega); show mkS F k j + 2 + _ ≤ _; omega
theorem DS.congr {w : World} {b off n : Nat} {F G : Nat → Step} {β γ : Nat → Nat} (h : DS w b off n F β γ) (e : ∀ j, j < n → F j = G j) : DS w b off n G β γ :=
  ⟨h.lt, h.hi, fun j hj => by rw [← e j hj]; exact h.at_ j hj, h.ne, h.dis⟩
theorem DS.mark {w w1 w3 : World} {b off n j n' c' : Nat} {A' : Option Addr} {F : Nat → Step} {β γ : Nat → Nat} {s : Str} {u : Bool} {ys : List Str} (h : DS w b off n F β γ) (hj : j < n) (hb1 : Below w.heap.size w w1)
    (hc : Cl w b (off + j * 3 + 1) (.slice A' n' c')) (ho : Out (β j) (γ j) (w1.setCell ⟨b, off + j * 3, none⟩ (.string s)) w3) (hr : RH strE w3 (β j) (γ j) A' n' ys) :
    DS (w3.setCell ⟨b, off + j * 3 + 2, none⟩ (.bool u)) b off n (fun i => if i = j then ⟨s, ys, u⟩ else F i) β γ := by
  have h1 := h.below hb1
  have hsz : (w1.setCell ⟨b, off + j * 3, none⟩ (.string s)).heap.size = w1.heap.size := by simp
  have hs3 : w1.heap.size ≤ w3.heap.size := by have := ho.size; omega
  have hs4 : (w3.setCell ⟨b, off + j * 3 + 2, none⟩ (.bool u)).heap.size = w3.heap.size := by simp
  have hkeep : ∀ i, i ≠ b → (w1.setCell ⟨b, off + j * 3, none⟩ (.string s)).heap[i]? = w1.heap[i]? := fun i hi => Below.heap_setCell _ _ _ i (by intro e; exact hi e)
  have hkeep4 : ∀ i, i ≠ b → (w3.setCell ⟨b, off + j * 3 + 2, none⟩ (.bool u)).heap[i]? = w3.heap[i]? := fun i hi => Below.heap_setCell _ _ _ i (by intro e; exact hi e)
  have hsb : Same b (b + 1) (w1.setCell ⟨b, off + j * 3, none⟩ (.string s)) w3 := ⟨fun i g1 g2 => by
    rw [show i = b by omega]
    refine ho.block b (by rw [hsz]; exact h1.lt) ?_
    rcases h.ne j hj with g | g
    · exact .inl g
    · exact .inr g⟩
  have hsw : Same b (b + 1) w w1 := ⟨fun i g1 g2 => by rw [show i = b by omega]; exact hb1.block b h.lt⟩
  refine ⟨by rw [hs4]; exact Nat.lt_of_lt_of_le h1.lt hs3, fun i hi => by rw [hs4]; exact Nat.le_trans (h1.hi i hi) hs3, fun i hi => ?_, h.ne, h.dis⟩
  by_cases hij : i = j
  · subst hij
    simp only [if_true]
    obtain ⟨_, _, _, d1, _, d3, _⟩ := h1.at_ i hi
    have d2 := hc.same hsw (Nat.le_refl _) (Nat.lt_succ_self _)
    refine ⟨A', n', c', ?_, ?_, ?_, hr.same ⟨fun q g1 g2 => hkeep4 q (by rcases h.ne i hj with g | g <;> omega)⟩⟩
    · exact (d1.set_same.same hsb (Nat.le_refl _) (Nat.lt_succ_self _)).set_other (.inr (by omega))
    · exact ((d2.set_other (.inr (by omega))).same hsb (Nat.le_refl _) (Nat.lt_succ_self _)).set_other (.inr (by omega))
    · exact ((d3.set_other (.inr (by omega))).same hsb (Nat.le_refl _) (Nat.lt_succ_self _)).set_same
  · simp only [hij, if_false]
    obtain ⟨A1, n1, c1, d1, d2, d3, d4⟩ := h1.at_ i hi
    refine ⟨A1, n1, c1, ?_, ?_, ?_, ?_⟩
    · exact ((d1.set_other (.inr (by omega))).same hsb (Nat.le_refl _) (Nat.lt_succ_self _)).set_other (.inr (by omega))
    · exact ((d2.set_other (.inr (by omega))).same hsb (Nat.le_refl _) (Nat.lt_succ_self _)).set_other (.inr (by omega))
    · exact ((d3.set_other (.inr (by omega))).same hsb (Nat.le_refl _) (Nat.lt_succ_self _)).set_other (.inr (by omega))
    · have d6 : RH strE (w1.setCell ⟨b, off + j * 3, none⟩ (.string s)) (β i) (γ i) A1 n1 (F i).after := d4.same ⟨fun q g1 g2 => hkeep q (by rcases h.ne i hi with g | g <;> omega)⟩
      exact (d6.out ho (by rw [hsz]; exact h1.hi i hi) (h.dis i j hi hj hij)).same ⟨fun q g1 g2 => hkeep4 q (by rcases h.ne i hi with g | g <;> omega)⟩

set_option maxRecDepth 100000 in
set_option maxHeartbeats 1000000 in
theorem markOwnS_any (b off n c k lo hi : Nat) (F : Nat → Step) (β γ : Nat → Nat) (w : World) (h : DS w b off n F β γ) (hn : n ≤ 1000) (hl : ∀ j, j < n → (F j).after.length ≤ 1000) (h1 : 1 ≤ k) (h2 : k ≤ 1000000000) (hlo : lo ≤ b) (hhb : b < hi) (hhg : ∀ j, j < n → γ j ≤ hi) (hlo2 : ∀ j, j < n → lo ≤ β j ∨ γ j ≤ β j) :
    Calls Try.prog 68 #[.slice (some ⟨b, off, none⟩) n c, .int .i64 (k : Int)] w fun e w' => e = .returned (.int .i64 ((mkS F k n : Nat) : Int)) ∧ DS w' b off n (mkSF F k) β γ ∧ Out lo hi w w' := by
  have HLT := Lib.hid hhb
  have HHI := Lib.hid hhg; clear hhg
  have HH := Lib.hid h; clear h
  have HLD := Lib.hid hl; clear hl
  have HL2 := Lib.hid hlo2; clear hlo2
  go_enter Try.func68, Try.ntmps68
  go_wp2_with fail
  go_loopw [1, 5] (fun q i wr => ∃ j : Nat, j ≤ n ∧ i = .int .i64 (j : Int) ∧ q = .int .i64 ((mkS F k j : Nat) : Int) ∧ DS wr b off n (fun i => if i < j then mkSF F k i else F i) β γ ∧ Out lo hi w wr) (fun _ i _ => n - (intOf i).toNat)
  case atStart => exact ⟨0, Nat.zero_le _, rfl, rfl, HH.out.congr (fun j _ => by simp), Out.refl⟩
  case round =>
    obtain ⟨j, hj, rfl, rfl, hdc, hb⟩ := hrel
    have HDC := Lib.hid hdc; clear hdc
    have HB := Lib.hid hb; clear hb
    have hm := mkS_hi (k := k) HLD.out j hj
    have hm0 := mkS_lo F k j
    by_cases hlt : j < n
    · obtain ⟨A', n', c', ⟨d1, f1⟩, ⟨d2, f2⟩, ⟨d3, f3⟩, d4⟩ := HDC.out.at_ j hlt
      have e1 : (if j < j then mkSF F k j else F j) = F j := if_neg (by omega)
      simp only [e1] at d1 d3 d4
      have hn' : n' = (F j).after.length := d4.1.symm
      have hdl := HLD.out j hlt
      have HT := Lib.hid (show mkS F k (j + 1) = mkS F k j + 2 + n' by rw [hn']; rfl)
      have HFJ := Lib.hid (show mkSF F k j = ⟨markS (mkS F k j), marksS (mkS F k j + 1) n', mrkB (mkS F k j + 1 + n')⟩ by rw [hn']; rfl)
      have HN' := Lib.hid hn'; clear hn'
      have hdl' : n' ≤ 1000 := by rw [HN'.out]; exact hdl
      generalize mkS F k j = m at *
      have hm3 : (m : Int) ≤ 2305843009213693952 := by omega
      have hbl := HDC.out.lt
      go_wp2_with fail
      refine (markText2_any m _ (by omega) (by omega)).mono ?_
      rintro e w1 ⟨rfl, hbw⟩
      have HBW := Lib.hid hbw
      have p1 := (hbw.cell (p := ⟨b, off + j * 3, none⟩) hbl).trans d1
      have p1' := (hbw.frozen (p := ⟨b, off + j * 3, none⟩) hbl).trans f1
      have c2 : Cl w1 b (off + j * 3 + 1) (.slice A' n' c') := ⟨(hbw.cell (p := ⟨b, off + j * 3 + 1, none⟩) hbl).trans d2, (hbw.frozen (p := ⟨b, off + j * 3 + 1, none⟩) hbl).trans f2⟩
      have c3 : Cl w1 b (off + j * 3 + 2) (.bool (F j).undo) := ⟨(hbw.cell (p := ⟨b, off + j * 3 + 2, none⟩) hbl).trans d3, (hbw.frozen (p := ⟨b, off + j * 3 + 2, none⟩) hbl).trans f3⟩
      obtain ⟨p2, _⟩ := c2.set_other (b' := b) (o' := off + j * 3) (v := .string (markS m)) (.inr (by omega))
      have HC3 := Lib.hid (c3.set_other (b' := b) (o' := off + j * 3) (v := .string (markS m)) (.inr (by omega)))
      have HRS : Hid (RH strE (w1.setCell ⟨b, off + j * 3, none⟩ (.string (markS m))) (β j) (γ j) A' n' (F j).after) := Lib.hid ((d4.below hbw (HDC.out.hi j hlt)).same ⟨fun q g1 g2 => by
        have hq : q ≠ b := by rcases HDC.out.ne j hlt with g | g <;> omega
        exact Below.heap_setCell _ _ _ q (by intro e; exact hq e)⟩)
      have HC2 := Lib.hid (show Cl wr b (off + j * 3 + 1) (.slice A' n' c') from ⟨d2, f2⟩)
      have hhi := HDC.out.hi j hlt
      have hs1 := hbw.size
      clear hbw d1 f1 d2 f2 d3 f3 d4 c2 c3 hdl e1 HH
      go_wp2_with fail
      refine (markStringS_any A' n' c' (m + 1) (F j).after (β j) (γ j) _ HRS.out (by omega) (by omega) (by omega) (by simp; omega)).mono ?_
      rintro e w3 ⟨rfl, hr3, ho3⟩
      have HD3 := Lib.hid (fun u : Bool => HDC.out.mark (u := u) hlt HBW.out HC2.out ho3 hr3)
      have hblw : b < (w1.setCell ⟨b, off + j * 3, none⟩ (.string (markS m))).heap.size := by simp; omega
      have hsame : Same b (b + 1) (w1.setCell ⟨b, off + j * 3, none⟩ (.string (markS m))) w3 := ⟨fun i g1 g2 => by
        rw [show i = b by omega]
        refine ho3.block b hblw ?_
        rcases HDC.out.ne j hlt with g | g
        · exact .inl g
        · exact .inr g⟩
      obtain ⟨q3, q3'⟩ := HC3.out.same hsame (Nat.le_refl _) (Nat.lt_succ_self _)
      have HO3 := Lib.hid (show Out lo hi w w3 from by
        have hsw := HB.out.size
        have g0 : Out lo hi w (w1.setCell ⟨b, off + j * 3, none⟩ (.string (markS m))) := by
          have hbw0 : b < hi := HLT.out
          exact (HB.out.trans (Out.of_below HBW.out)).set_ hlo hbw0 _ _
        refine g0.trans ⟨ho3.os, ho3.tape, ho3.output, ho3.size, fun i g1 g2 => ?_⟩
        have g3 := HHI.out j hlt
        refine ho3.block i g1 ?_
        rcases HL2.out j hlt with g4 | g4
        · rcases g2 with g2 | g2
          · exact .inl (by omega)
          · exact .inr (by omega)
        · rcases Nat.lt_or_ge i (β j) with g5 | g5
          · exact .inl g5
          · exact .inr (by omega))
      clear ho3 hr3 hsame p1 p1' p2
      obtain ⟨m3, hm3e⟩ : ∃ m3 : Nat, m3 = m + 1 + n' := ⟨_, rfl⟩
      have HM3 := Lib.hid hm3e
      rw [← hm3e]
      have hm4 : m3 ≤ 6199513630720 := by omega
      have hm5 : m + 1 ≤ m3 := by omega
      clear hm3e
      have hmr : Hid ((((m3 : Int) % 3) == 0) = mrkB m3) := Lib.hid rfl
      go_wp2_with fail
      rw [hmr.out]
      go_wp2_with fail
      go_roundw
      case rel =>
        refine ⟨j + 1, by omega, by go_num, by rw [HT.out, HM3.out]; go_num, (HD3.out _).congr (fun i hi => ?_), HO3.out.set_ hlo HLT.out _ _⟩
        by_cases hij : i = j
        · subst hij
          rw [if_pos rfl, if_pos (by omega), HFJ.out, HM3.out]
        · rw [if_neg hij]
          by_cases hil : i < j
          · rw [if_pos hil, if_pos (by omega)]
          · rw [if_neg hil, if_neg (by omega)]
      case measure => simp [intOf]; omega
    · obtain rfl : j = n := by omega
      go_wp2_with fail
      go_ret
      exact ⟨rfl, HDC.out.congr (fun i hi => by rw [if_pos hi]), HB.out⟩

set_option maxRecDepth 100000 in
set_option maxHeartbeats 1000000 in
theorem heldOwnS_any (b off n c k : Nat) (F : Nat → Step) (β γ : Nat → Nat) (w : World) (h : DS w b off n (mkSF F k) β γ) (hn : n ≤ 1000) (hl : ∀ j, j < n → (F j).after.length ≤ 1000) (h1 : 1 ≤ k) (h2 : k ≤ 1000000000) :
    Calls Try.prog 117 #[.slice (some ⟨b, off, none⟩) n c, .int .i64 (k : Int)] w fun e w' => e = .returned (.int .i64 ((mkS F k n : Nat) : Int)) ∧ Below w.heap.size w w' := by
  have HH := Lib.hid h; clear h
  have HLD := Lib.hid hl; clear hl
  go_enter Try.func117, Try.ntmps117
  go_wp2_with fail
  go_loopw [1, 5] (fun q i wr => ∃ j : Nat, j ≤ n ∧ i = .int .i64 (j : Int) ∧ q = .int .i64 ((mkS F k j : Nat) : Int) ∧ Below w.heap.size w wr) (fun _ i _ => n - (intOf i).toNat)
  case atStart => exact ⟨0, Nat.zero_le _, rfl, rfl, Below.refl _ _⟩
  case round =>
    obtain ⟨j, hj, rfl, rfl, hb⟩ := hrel
    have HB := Lib.hid hb; clear hb
    have HDC := Lib.hid (HH.out.below HB.out)
    have hm := mkS_hi (k := k) HLD.out j hj
    have hm0 := mkS_lo F k j
    by_cases hlt : j < n
    · obtain ⟨A', n', c', ⟨d1, f1⟩, ⟨d2, f2⟩, ⟨d3, f3⟩, d4⟩ := HDC.out.at_ j hlt
      have hdl := HLD.out j hlt
      have hn' : n' = (F j).after.length := by rw [← d4.1]; exact marksS_len _ _
      have HT := Lib.hid (show mkS F k (j + 1) = mkS F k j + 2 + n' by rw [hn']; rfl)
      have hfj : mkSF F k j = ⟨markS (mkS F k j), marksS (mkS F k j + 1) n', mrkB (mkS F k j + 1 + n')⟩ := by rw [hn']; rfl
      rw [hfj] at d1 d3 d4
      have hdl' : n' ≤ 1000 := by rw [hn']; exact hdl
      clear hn' hfj hdl
      generalize mkS F k j = m at *
      have hm3 : (m : Int) ≤ 2305843009213693952 := by omega
      have hm1 : 1 ≤ m := by omega
      have hm2 : m ≤ 2305843009213693952 := by omega
      have hbl := HDC.out.lt
      have hq : ((markS m).toList != (markS m).toList) = false := by simp
      have hss : Hid (RStr wr (β j) A' n' (marksS (m + 1) n')) := Lib.hid (d4.up (HDC.out.hi j hlt))
      clear d4
      go_wp2_with fail
      go_region_held3 (fun w' => w'.cell? ⟨b, off + j * 3, none⟩ = some (.string (markS m)))
        (first | go_keep | (rw [hbw.cell (p := ⟨b, off + j * 3, none⟩) (by simpa using hbl)]; assumption))
        (first | (go_at_call 69; refine (markText2_any m _ hm1 hm2).mono ?_; rintro e w1 ⟨rfl, hbw⟩))
      have hbw' : Below wr.heap.size wr w1 := (Below.refl wr.heap.size wr).drew.trans hbw
      have p2 := (hbw'.cell (p := ⟨b, off + j * 3 + 1, none⟩) hbl).trans d2
      have HB1 := Lib.hid (HB.out.trans (hbw'.mono HB.out.size))
      have HS1 := Lib.hid (hss.out.below hbw')
      have HW1 := Lib.hid hbw'
      have D3 := Lib.hid d3
      clear hbw hbw' d1 d2 d3 f1 f2 f3 hss
      go_wp2_with fail
      refine (heldStringS_any A' n' c' (m + 1) _ _ HS1.out (by omega) (by omega) (by omega)).mono ?_
      rintro e w3 ⟨rfl, hb3⟩
      have HB3 := Lib.hid (HB1.out.trans (hb3.mono HB1.out.size))
      have p3 := ((HW1.out.trans (hb3.mono HW1.out.size)).cell (p := ⟨b, off + j * 3 + 2, none⟩) hbl).trans D3.out
      clear hb3 p2
      obtain ⟨m3, hm3e⟩ : ∃ m3 : Nat, m3 = m + 1 + n' := ⟨_, rfl⟩
      have HM3 := Lib.hid hm3e
      rw [← hm3e] at p3 ⊢
      have hm4 : m3 ≤ 6199513630720 := by omega
      have hpos : ¬ ((m3 : Int) < 0) := by omega
      clear hm3e
      have hmr : Hid ((((m3 : Int) % 3) == 0) = mrkB m3) := Lib.hid rfl
      have hmn : (mrkB m3 != mrkB m3) = false := by simp
      have hmn2 : (mrkB m3 == (((m3 : Int) % 3) == 0)) = true := by rw [hmr.out]; simp
      have hmn3 : (!(mrkB m3 == (((m3 : Int) % 3) == 0))) = false := by rw [hmn2]; rfl
      go_wp2_with fail
      go_roundw
      case rel => exact ⟨j + 1, by omega, by go_num, by rw [HT.out, HM3.out]; go_num, HB3.out⟩
      case measure => simp [intOf]; omega
    · obtain rfl : j = n := by omega
      go_wp2_with fail
      go_ret
      exact ⟨rfl, HB.out⟩

/-- The marked steps, as a list. -/
def mkSL (ss : List Step) (k : Nat) : List Step := (List.range ss.length).map (mkSF (nth ss) k)
theorem mkSL_len (ss : List Step) (k : Nat) : (mkSL ss k).length = ss.length := by simp [mkSL]
theorem mkSL_at {ss : List Step} {k j : Nat} (hj : j < ss.length) : nth (mkSL ss k) j = mkSF (nth ss) k j := by
  rw [nth_eq (by rw [mkSL_len]; exact hj)]; simp [mkSL]
theorem markDSR_any (A : Option Addr) (n c k lo hi : Nat) (ss : List Step) (w : World) (h : DSR w lo hi A n ss) (hn : n ≤ 1000) (hl : ∀ j, j < n → (nth ss j).after.length ≤ 1000) (h1 : 1 ≤ k) (h2 : k ≤ 1000000000) :
    Calls Try.prog 68 #[.slice A n c, .int .i64 (k : Int)] w fun e w' => e = .returned (.int .i64 ((mkS (nth ss) k n : Nat) : Int)) ∧ DSR w' lo hi A n (mkSL ss k) ∧ Out lo hi w w' := by
  have hL := h.1
  rcases Nat.eq_zero_or_pos n with h0 | h0
  · subst h0
    have he : ss = [] := List.length_eq_zero_iff.1 hL
    subst he
    go_enter Try.func68, Try.ntmps68
    go_wp2_with fail
    go_loopw [1, 5] (fun q i wr => q = .int .i64 (k : Int) ∧ i = .int .i64 0 ∧ wr = w) (fun _ _ _ => 0)
    case atStart => exact ⟨rfl, rfl, rfl⟩
    case round =>
      obtain ⟨rfl, rfl, rfl⟩ := hrel
      go_wp2_with fail
      go_ret
      exact ⟨rfl, DSR.nil, Out.refl⟩
  · obtain ⟨b, off, β, γ, rfl, e1, e2, e3⟩ := h.2 h0
    refine (markOwnS_any b off n c k lo hi (nth ss) β γ w e3 hn hl h1 h2 e1.1 e1.2.1 e1.2.2 e2).mono ?_
    rintro e w' ⟨rfl, hd, ho⟩
    exact ⟨rfl, ⟨by rw [mkSL_len]; exact hL, fun _ => ⟨b, off, β, γ, rfl, e1, e2, hd.congr (fun j hj => (mkSL_at (by omega)).symm)⟩⟩, ho⟩
theorem heldDSR_any (A : Option Addr) (n c k lo hi : Nat) (ss : List Step) (w : World) (h : DSR w lo hi A n (mkSL ss k)) (hn : n ≤ 1000) (hl : ∀ j, j < n → (nth ss j).after.length ≤ 1000) (h1 : 1 ≤ k) (h2 : k ≤ 1000000000) :
    Calls Try.prog 117 #[.slice A n c, .int .i64 (k : Int)] w fun e w' => e = .returned (.int .i64 ((mkS (nth ss) k n : Nat) : Int)) ∧ Below w.heap.size w w' := by
  have hL : ss.length = n := by rw [← h.1, mkSL_len]
  rcases Nat.eq_zero_or_pos n with h0 | h0
  · subst h0
    go_enter Try.func117, Try.ntmps117
    go_wp2_with fail
    go_loopw [1, 5] (fun q i wr => q = .int .i64 (k : Int) ∧ i = .int .i64 0 ∧ wr = w) (fun _ _ _ => 0)
    case atStart => exact ⟨rfl, rfl, rfl⟩
    case round =>
      obtain ⟨rfl, rfl, rfl⟩ := hrel
      go_wp2_with fail
      go_ret
      exact ⟨rfl, Below.refl _ _⟩
  · obtain ⟨b, off, β, γ, rfl, e1, e2, e3⟩ := h.2 h0
    exact heldOwnS_any b off n c k (nth ss) β γ w (e3.congr (fun j hj => mkSL_at (by omega))) hn hl h1 h2
/-- The flow whose steps they are. -/
theorem markFlowD_any (A : Option Addr) (n c k lo hi : Nat) (v : Int) (ss : List Step) (w : World) (h : DSR w lo hi A n ss) (hn : n ≤ 1000) (hl : ∀ j, j < n → (nth ss j).after.length ≤ 1000) (h1 : 1 ≤ k) (h2 : k ≤ 1000000000) :
    Calls Try.prog 23 #[.agg #[.int .i64 v, .slice A n c], .int .i64 (k : Int)] w fun e w' => e = .returned (.int .i64 ((mkS (nth ss) k n : Nat) : Int)) ∧ DSR w' lo hi A n (mkSL ss k) ∧ Out lo hi w w' := by
  have hb0 := (Below.refl w.heap.size w).alloc (Nat.le_refl _) (.cells #[.int .i64 v, .slice A n c] 34)
  have HR := Lib.hid (h.below hb0); clear h
  have HB0 := Lib.hid hb0; clear hb0
  go_enter Try.func23, Try.ntmps23
  go_wp2_with fail
  refine (markDSR_any A n c k lo hi ss _ HR.out hn hl h1 h2).mono ?_
  rintro e w1 ⟨rfl, hd, ho⟩
  have HD := Lib.hid hd; clear hd
  have HO := Lib.hid ho; clear ho
  go_wp2_with fail
  go_ret
  exact ⟨rfl, HD.out, (Out.of_below HB0.out).trans HO.out⟩
theorem heldFlowD_any (A : Option Addr) (n c k lo hi : Nat) (v : Int) (ss : List Step) (w : World) (h : DSR w lo hi A n (mkSL ss k)) (hn : n ≤ 1000) (hl : ∀ j, j < n → (nth ss j).after.length ≤ 1000) (h1 : 1 ≤ k) (h2 : k ≤ 1000000000) :
    Calls Try.prog 56 #[.agg #[.int .i64 v, .slice A n c], .int .i64 (k : Int)] w fun e w' => e = .returned (.int .i64 ((mkS (nth ss) k n : Nat) : Int)) ∧ Below w.heap.size w w' := by
  have hb0 := (Below.refl w.heap.size w).alloc (Nat.le_refl _) (.cells #[.int .i64 v, .slice A n c] 34)
  have HR := Lib.hid (h.below hb0); clear h
  have HB0 := Lib.hid hb0; clear hb0
  go_enter Try.func56, Try.ntmps56
  go_wp2_with fail
  refine (heldDSR_any A n c k lo hi ss _ HR.out hn hl h1 h2).mono ?_
  rintro e w1 ⟨rfl, hb1⟩
  have HB1 := Lib.hid (HB0.out.trans (hb1.mono HB0.out.size))
  have hpos : ¬ (((mkS (nth ss) k n : Nat) : Int) < 0) := by omega
  clear hb1
  go_wp2_with fail
  go_ret
  exact ⟨rfl, HB1.out⟩
end Go.Proofs.Ytakeijgoonagcaa

/- A flow cloned: the lists lie apart. -/
namespace Go.Proofs.Ytakeijgoonagcaa
open Go.RowKit

/-- Steps of the call's own whose lists lie apart. -/
abbrev SRowT (w : World) (base : Nat) (v : Value) (n : Nat) (ss : List Step) : Prop := SRowD w base w.heap.size v n ss
theorem SRowT.nil {w : World} {base : Nat} : SRowT w base (.slice none 0 0) 0 [] := SRowD.nil
theorem SRowT.below {w w' : World} {base n : Nat} {v : Value} {ss : List Step} (h : SRowT w base v n ss) (hb : Below w.heap.size w w') : SRowT w' base v n ss := (SRowD.below h hb).wide hb.size
theorem SRowT.set {w : World} {base n b o : Nat} {v u : Value} {ss : List Step} {cs : Array Value} {t : TypeId} (h : SRowT w base v n ss) (hb : w.heap[b]? = some (.cells cs t (0, 0))) (h1 : t ≠ 9) (h2 : t ≠ 75) :
    SRowT (w.setCell ⟨b, o, none⟩ u) base v n ss := (SRowD.set h hb h1 h2).wide (by simp)
theorem SRowT.lt {w : World} {base n b : Nat} {A : Option Addr} {c : Nat} {ss : List Step} (h : SRowT w base (.slice A n c) n ss) (hA : (Value.slice A n c).ownBlock = some b) : base ≤ b ∧ b < w.heap.size := SRowD.lt h hA
theorem SRowT.ne {w : World} {base n b : Nat} {v : Value} {ss : List Step} {cs : Array Value} {t : TypeId} {fr : Nat × Nat} (h : SRowT w base v n ss) (hb : w.heap[b]? = some (.cells cs t fr)) (ht : 75 ≠ t) : v.ownBlock ≠ some b := SRowD.ne h hb ht
theorem SRowT.hat {w : World} {base n : Nat} {v : Value} {ss : List Step} (h : SRowT w base v n ss) : ∃ A c, v = .slice A n c ∧ RStep w base A n ss := SRowD.hat h
theorem wapp_stepT {w : World} {o : Oper} {a : Act} {K : Act → World → Prop} {Q : Exit → Act → World → Prop} (base lo2 : Nat) (v : Value) (n : Nat) (ss : List Step) (b : Nat) (s : Step) (A : Option Addr) (m c : Nat) (hown : SRowD w base lo2 v n ss) (hs0 : SStr w lo2 A m s.after) (hl : base ≤ lo2) (hlw : lo2 ≤ w.heap.size)
    (l x : Operand) (ho : o.op = .call { callee := .builtin .append, args := #[l, x], argTypes := #[32, 32] })
    (hs : a.eval l = v) (hx : a.eval x = .slice (some ⟨b, 0, none⟩) 1 1) (hb : w.heap[b]? = some (.cells #[.string s.name, .slice A m c, .bool s.undo] 75 (0, 0))) (hn : n ≤ 1048576) (hbase : base ≤ w.heap.size)
    (h : ∀ v' w', SRowT w' base v' (n + 1) (ss ++ [s]) → w.grownBy w' v.ownBlock → (v'.ownBlock = v.ownBlock ∨ v'.ownBlock = some w.heap.size) → K (a.put o.dst v') w') : o.wp Try.prog a w K Q :=
  wapp_stepD base lo2 w.heap.size v n ss b s A m c hown (hs0.mono hl) (fun b' e hm => by
    obtain ⟨b2, cs, e2, h1, h2, _⟩ := hs0.2 hm
    rw [e2] at e
    injection e with e
    injection e with e
    subst e
    exact ⟨h1, heap_lt h2⟩) hlw l x ho hs hx hb hn hbase fun v' w' h1 h2 h3 => h v' w' (h1.wide h2.size) h2 h3

set_option maxRecDepth 100000 in
set_option maxHeartbeats 4000000 in
theorem flowCloneD_any (A : Option Addr) (n c : Nat) (f : Flow) (lo : Nat) (w : World) (hr : RStep w lo A n f.steps) (hok : okSteps f.steps) :
    Calls Try.prog 98 #[.agg #[.int .i64 f.ver, .slice A n c]] w fun e w' => ∃ B d, e = .returned (.agg #[.int .i64 f.ver, .slice B n d]) ∧ SRowT w' w.heap.size (.slice B n d) n f.steps ∧ Below w.heap.size w w' := by
  have HL := Lib.hid hr.1
  have HOK := Lib.hid hok; clear hok
  have hn : n ≤ 1048576 := by have := HOK.out.1; rw [HL.out] at this; exact this
  have HR := Lib.hid hr; clear hr
  have HF0 := Lib.hid (heap_old (o := .cells #[.int .i64 0, .slice none 0 0] 34) (heap_new (w := w) (o := .cells #[.int .i64 f.ver, .slice A n c] 34) rfl))
  have HZ0 := Lib.hid (heap_old (o := .cells #[.int .i64 f.ver, .slice none 0 0] 34) (heap_new (w := (w.alloc (.cells #[.int .i64 f.ver, .slice A n c] 34))) (b := w.heap.size + 1) (o := .cells #[.int .i64 0, .slice none 0 0] 34) (by simp)))
  have HX0 := Lib.hid (heap_new (w := ((w.alloc (.cells #[.int .i64 f.ver, .slice A n c] 34)).alloc (.cells #[.int .i64 0, .slice none 0 0] 34))) (b := w.heap.size + 1 + 1) (o := .cells #[.int .i64 f.ver, .slice none 0 0] 34) (by simp))
  have HB0 := Lib.hid ((((Below.refl w.heap.size w).alloc (Nat.le_refl _) (.cells #[.int .i64 f.ver, .slice A n c] 34)).alloc (by simp) (.cells #[.int .i64 0, .slice none 0 0] 34)).alloc (by simp; omega) (.cells #[.int .i64 f.ver, .slice none 0 0] 34))
  have HN0 : Hid (SRowT (((w.alloc (.cells #[.int .i64 f.ver, .slice A n c] 34)).alloc (.cells #[.int .i64 0, .slice none 0 0] 34)).alloc (.cells #[.int .i64 f.ver, .slice none 0 0] 34)) w.heap.size (.slice none 0 0) 0 []) := Lib.hid SRowT.nil
  have f0 := (blk_cl (k := 0) HF0.out rfl).1
  have f1 := (blk_cl (k := 1) (heap_old (o := .cells #[.int .i64 f.ver, .slice none 0 0] 34) HF0.out) rfl).1
  go_enter Try.func98, Try.ntmps98
  go_wp2_with fail
  go_loopw [12] (fun i wr => ∃ k : Nat, ∃ B : Option Addr, ∃ d : Nat, k ≤ n ∧ i = .int .i64 (k : Int) ∧ SRowT wr w.heap.size (.slice B k d) k (f.steps.take k) ∧ Below w.heap.size w wr ∧ wr.heap[w.heap.size + 1]? = some (.cells #[.int .i64 0, .slice none 0 0] 34) ∧ wr.heap[w.heap.size + 1 + 1]? = some (.cells #[.int .i64 f.ver, .slice B k d] 34)) (fun i _ => n - (intOf i).toNat)
  case atStart => exact ⟨0, _, 0, Nat.zero_le _, rfl, HN0.out, HB0.out, HZ0.out, HX0.out⟩
  case round =>
    obtain ⟨wo, rfl⟩ : ∃ wo : World, wo = wr := ⟨_, rfl⟩
    obtain ⟨k, B, d, hk, rfl, hrow, hbw0, hz, hx⟩ := hrel
    clear f0 f1
    by_cases hlt : k < n
    · obtain ⟨b, off, rfl, ⟨_, hbl⟩, hc⟩ := RStep.at_ HR.out hlt
      obtain ⟨A', n', c', ⟨d1, d2, d3⟩, hdr, _⟩ := hc k hlt
      clear hc
      have d1 := (hbw0.cell (p := ⟨b, off + k * 3, none⟩) hbl).trans d1
      have d2 := (hbw0.cell (p := ⟨b, off + k * 3 + 1, none⟩) hbl).trans d2
      have d3 := (hbw0.cell (p := ⟨b, off + k * 3 + 2, none⟩) hbl).trans d3
      have hkl : k < f.steps.length := by rw [HL.out]; exact hlt
      have hn' : n' ≤ 1048576 := by rw [← hdr.1]; exact (HOK.out.2 k hkl).2.1
      have HT := Lib.hid (take_nth hkl)
      have hk0 : (0 : Int) ≤ (k : Int) := by omega
      have hk1 : (k : Int) < (n : Int) := by omega
      have hk2 : ¬ ((k : Int) < 0) := by omega
      have HDR := Lib.hid ((hdr.below hbw0).alloc (.cells #[.string (nth f.steps k).name, .slice A' n' c', .bool (nth f.steps k).undo] 75))
      have HNPB : Hid ((Value.slice B k d).ownBlock ≠ some wo.heap.size) := Lib.hid (fun e => by have := (SRowT.lt hrow e).2; omega)
      have HROW := Lib.hid (hrow.below ((Below.refl _ _).alloc (Nat.le_refl _) (.cells #[.string (nth f.steps k).name, .slice A' n' c', .bool (nth f.steps k).undo] 75)))
      have HBW := Lib.hid (hbw0.alloc hbw0.size (.cells #[.string (nth f.steps k).name, .slice A' n' c', .bool (nth f.steps k).undo] 75))
      have HZ := Lib.hid (heap_old (o := .cells #[.string (nth f.steps k).name, .slice A' n' c', .bool (nth f.steps k).undo] 75) hz)
      have HX := Lib.hid (heap_old (o := .cells #[.string (nth f.steps k).name, .slice A' n' c', .bool (nth f.steps k).undo] 75) hx)
      have HP := Lib.hid (heap_new (w := wo) (o := .cells #[.string (nth f.steps k).name, .slice A' n' c', .bool (nth f.steps k).undo] 75) rfl)
      have hp2 : w.heap.size + 1 + 1 < wo.heap.size := heap_lt hx
      clear hdr hrow hz hx hbw0
      go_upto_region 5 with fail
      generalize wo.alloc (.cells #[.string (nth f.steps k).name, .slice A' n' c', .bool (nth f.steps k).undo] 75) = wq at *
      generalize wo.heap.size = pb at *
      clear d1 d2 d3
      have hsw := HBW.out.size
      have hxl := heap_lt HX.out
      have hpl := heap_lt HP.out
      have x1 := (blk_cl (k := 1) HX.out rfl).1
      have HSB : Hid (∀ w', Below wq.heap.size wq w' → (fun w' : World => w'.cell? ⟨pb, 0, none⟩ = some (.string (nth f.steps k).name) ∧ w'.cell? ⟨pb, 1, none⟩ = some (.slice A' n' c') ∧ w'.cell? ⟨pb, 2, none⟩ = some (.bool (nth f.steps k).undo)) w') := Lib.hid (fun w' h => by
        have e1 := (h.block _ hpl).trans HP.out
        exact ⟨(blk_cl (k := 0) e1 rfl).1, (blk_cl (k := 1) e1 rfl).1, (blk_cl (k := 2) e1 rfl).1⟩)
      have HKF : Hid (∀ w' o u, (fun w' : World => w'.cell? ⟨pb, 0, none⟩ = some (.string (nth f.steps k).name) ∧ w'.cell? ⟨pb, 1, none⟩ = some (.slice A' n' c') ∧ w'.cell? ⟨pb, 2, none⟩ = some (.bool (nth f.steps k).undo)) w' → (fun w' : World => w'.cell? ⟨pb, 0, none⟩ = some (.string (nth f.steps k).name) ∧ w'.cell? ⟨pb, 1, none⟩ = some (.slice A' n' c') ∧ w'.cell? ⟨pb, 2, none⟩ = some (.bool (nth f.steps k).undo)) (w'.setCell ⟨w.heap.size + 1 + 1, o, none⟩ u)) := Lib.hid (fun w' o u h => ⟨(cellFar1 (by omega)).trans h.1, (cellFar1 (by omega)).trans h.2.1, (cellFar1 (by omega)).trans h.2.2⟩)
      have HKG : Hid (∀ (w5 w7 : World) (o : Obj), Below wq.heap.size wq w5 → (w5.alloc o).grownBy w7 (Value.slice B k d).ownBlock → (fun w' : World => w'.cell? ⟨pb, 0, none⟩ = some (.string (nth f.steps k).name) ∧ w'.cell? ⟨pb, 1, none⟩ = some (.slice A' n' c') ∧ w'.cell? ⟨pb, 2, none⟩ = some (.bool (nth f.steps k).undo)) w7) := Lib.hid (fun w5 w7 o h hg => by
        have hne : (Value.slice B k d).ownBlock ≠ some pb := HNPB.out
        have e1 := grown_blk hg (heap_old (o := o) ((h.block _ hpl).trans HP.out)) hne
        exact ⟨(blk_cl (k := 0) e1 rfl).1, (blk_cl (k := 1) e1 rfl).1, (blk_cl (k := 2) e1 rfl).1⟩)
      go_wp2_with fail
      refine wp_region_held_drew (S := fun w' : World => w'.cell? ⟨pb, 0, none⟩ = some (.string (nth f.steps k).name) ∧ w'.cell? ⟨pb, 1, none⟩ = some (.slice A' n' c') ∧ w'.cell? ⟨pb, 2, none⟩ = some (.bool (nth f.steps k).undo)) (by kernel_rfl) (HSB.out _ (Below.refl _ _).drew) (fun hH => ?_)
      refine wpAnyH_takeE (i := 0) (d := some 16) (v := ?v201) rfl (by rfl) (by kernel_rfl) (by kernel_rfl) (by kernel_rfl) (fun _ _ _ h => h) (Or.inl ⟨by rfl, ?y201⟩) hH ?r201
      case y201 => (intro w' hS; (try dsimp only at hS); go_simp; (try with_reducible rfl))
      (try simp only [Act.put, List.setIfInBounds_toArray, List.set_cons_zero, List.set_cons_succ])
      refine wpAnyH_takeE (i := 2) (d := some 18) (v := ?v202) rfl (by rfl) (by kernel_rfl) (by kernel_rfl) (by kernel_rfl) (fun _ _ _ h => h) (Or.inl ⟨by rfl, ?y202⟩) hH ?r202
      case y202 => (intro w' hS; (try dsimp only at hS); go_simp; (try with_reducible rfl))
      (try simp only [Act.put, List.setIfInBounds_toArray, List.set_cons_zero, List.set_cons_succ])
      refine wpAnyH_ready (rs := [1, 3]) (by kernel_rfl) (by simp) ?_
      refine AllReadyH.cons rfl (fun K hK => ?_) ?_
      · go_simp
        refine hK.out _ _ (HSB.out _ (Below.refl _ _).drew) (fun hH2 => ?_)
        clear hK K hH
        have hH := hH2
        (try simp only [Act.put, List.setIfInBounds_toArray, List.set_cons_zero, List.set_cons_succ])
        refine wpAnyH_ready (rs := [3]) (by kernel_rfl) (by simp) ?_
        refine AllReadyH.cons rfl (fun K hK => ?_) AllReadyH.nil
        go_wp2_with fail
        go_at_call 108
        refine (stepClone_any _ _ _ (nth f.steps k) _ _ (HDR.out.below (by repeat (first | with_reducible exact Below.refl _ _ | apply Below.drew | apply Below.al2_))) hn').mono ?_
        rintro e w5 ⟨A5, c5, rfl, hss5, hb5⟩
        have hbw : Below wq.heap.size wq w5 := (Below.refl wq.heap.size wq).drew.trans hb5
        have HX5 := Lib.hid ((hbw.block _ hxl).trans HX.out)
        have y1 := (blk_cl (k := 1) HX5.out rfl).1
        have y2 := (blk_cl (k := 1) (heap_old (o := .cells #[.string (nth f.steps k).name, .slice A5 n' c5, .bool (nth f.steps k).undo] 75) HX5.out) rfl).1
        go_wp2_with fail
        refine hK.out _ _ (HSB.out _ hbw) (fun hH2 => ?_)
        clear hK K hH
        have hH := hH2
        (try simp only [Act.put, List.setIfInBounds_toArray, List.set_cons_zero, List.set_cons_succ])
        refine wpAnyH_ready (rs := [4]) (by kernel_rfl) (by simp) ?_
        refine AllReadyH.cons rfl (fun K hK => ?_) AllReadyH.nil
        go_simp
        refine hK.out _ _ (HSB.out _ (Below.al2_ hbw _)) (fun hH2 => ?_)
        clear hK K hH
        have hH := hH2
        (try simp only [Act.put, List.setIfInBounds_toArray, List.set_cons_zero, List.set_cons_succ])
        refine wpAnyH_ready (rs := [5]) (by kernel_rfl) (by simp) ?_
        refine AllReadyH.cons rfl (fun K hK => ?_) AllReadyH.nil
        refine wapp_stepT w.heap.size wq.heap.size (.slice B k d) k (f.steps.take k) _ (nth f.steps k) A5 n' c5 (SRowD.below (SRowD.below HROW.out hbw) ((Below.refl _ _).alloc (Nat.le_refl _) _)) (hss5.below ((Below.refl _ _).alloc (Nat.le_refl _) _)) hsw (by (have h1 := hbw.size; simp; omega)) (.tmp 17) (.tmp 20) rfl rfl rfl (heap_new rfl) (by omega) (by (have h1 := hbw.size; simp; omega)) ?_
        intro v7 w7 how7 hg7 hat7
        have HX7 := Lib.hid (grown_blk hg7 (heap_old (o := .cells #[.string (nth f.steps k).name, .slice A5 n' c5, .bool (nth f.steps k).undo] 75) HX5.out) (HROW.out.ne HX.out (by decide)))
        have z1 := (blk_cl (k := 1) HX7.out rfl).1
        have z1' := (blk_cl (k := 1) HX7.out rfl).2
        have hk7 := HKG.out _ _ _ hbw hg7
        refine hK.out _ _ (hk7) (fun hH2 => ?_)
        clear hK K hH
        have hH := hH2
        (try simp only [Act.put, List.setIfInBounds_toArray])
        refine wpAnyH_takeE (i := 6) (d := some 22) (v := ?v203) rfl (by rfl) (by kernel_rfl) (by kernel_rfl) (by kernel_rfl) (fun _ _ _ h => h) (Or.inl ⟨by rfl, ?y203⟩) hH ?r203
        case y203 => (intro w' hS; (try dsimp only at hS); go_simp; (try with_reducible rfl))
        (try simp only [Act.put])
        obtain ⟨B7, d7, rfl, _⟩ := how7.hat
        refine wpAnyH_ready (rs := [7]) (by kernel_rfl) (by simp) ?_
        refine AllReadyH.cons rfl (fun K hK => ?_) AllReadyH.nil
        go_simp
        (try simp only [Oper.upon])
        refine hK.out _ _ (HKF.out _ _ _ hk7) (fun _ => ?_)
        clear hK K hH
        (try simp only [Act.put, List.setIfInBounds_toArray, List.set_cons_zero, List.set_cons_succ])
        refine wpAnyH_done (by kernel_rfl) ?_ _
        have HB5 := HBW.out.trans (hbw.mono hsw)
        have HB7a := (HB5.alloc HB5.size (.cells #[.string (nth f.steps k).name, .slice A5 n' c5, .bool (nth f.steps k).undo] 75)).grown hg7 (by have := HB5.size; simp; omega) (fun b hb => (SRowT.lt HROW.out hb).1)
        have HB7 := Lib.hid (HB7a.setCell (p := ⟨w.heap.size + 1 + 1, 1, none⟩) (by show w.heap.size ≤ w.heap.size + 1 + 1; omega) (.slice B7 (k + 1) d7))
        have HZ7 := Lib.hid (set_ne (b := w.heap.size + 1 + 1) (o := 1) (u := .slice B7 (k + 1) d7) (grown_blk hg7 (heap_old (o := .cells #[.string (nth f.steps k).name, .slice A5 n' c5, .bool (nth f.steps k).undo] 75) ((hbw.block _ (heap_lt HZ.out)).trans HZ.out)) (HROW.out.ne HZ.out (by decide))) (by omega))
        have HX8 := Lib.hid (set21 (u := .slice B7 (k + 1) d7) HX7.out)
        have HK8 := Lib.hid (how7.set (o := 1) (u := .slice B7 (k + 1) d7) HX7.out (by decide) (by decide))
        clear how7 hg7 hat7 hk7 hss5 hb5 hbw HB5 HB7a
        go_wp2_with fail
        go_roundw
        case rel => exact ⟨k + 1, B7, d7, by omega, by go_num, by rw [HT.out]; exact HK8.out, HB7.out, HZ7.out, HX8.out⟩
        case measure => simp [intOf]; omega
      · refine AllReadyH.cons rfl (fun K hK => ?_) AllReadyH.nil
        go_wp2_with fail
        go_at_call 108
        refine (stepClone_any _ _ _ (nth f.steps k) _ _ (HDR.out.below (by repeat (first | with_reducible exact Below.refl _ _ | apply Below.drew | apply Below.al2_))) hn').mono ?_
        rintro e w5 ⟨A5, c5, rfl, hss5, hb5⟩
        have hbw : Below wq.heap.size wq w5 := (Below.refl wq.heap.size wq).drew.trans hb5
        have HX5 := Lib.hid ((hbw.block _ hxl).trans HX.out)
        have y1 := (blk_cl (k := 1) HX5.out rfl).1
        have y2 := (blk_cl (k := 1) (heap_old (o := .cells #[.string (nth f.steps k).name, .slice A5 n' c5, .bool (nth f.steps k).undo] 75) HX5.out) rfl).1
        go_wp2_with fail
        refine hK.out _ _ (HSB.out _ hbw) (fun hH2 => ?_)
        clear hK K hH
        have hH := hH2
        (try simp only [Act.put, List.setIfInBounds_toArray, List.set_cons_zero, List.set_cons_succ])
        refine wpAnyH_ready (rs := [1, 4]) (by kernel_rfl) (by simp) ?_
        refine AllReadyH.cons rfl (fun K hK => ?_) ?_
        · go_simp
          refine hK.out _ _ (HSB.out _ hbw) (fun hH2 => ?_)
          clear hK K hH
          have hH := hH2
          (try simp only [Act.put, List.setIfInBounds_toArray, List.set_cons_zero, List.set_cons_succ])
          refine wpAnyH_ready (rs := [4]) (by kernel_rfl) (by simp) ?_
          refine AllReadyH.cons rfl (fun K hK => ?_) AllReadyH.nil
          go_simp
          refine hK.out _ _ (HSB.out _ (Below.al2_ hbw _)) (fun hH2 => ?_)
          clear hK K hH
          have hH := hH2
          (try simp only [Act.put, List.setIfInBounds_toArray, List.set_cons_zero, List.set_cons_succ])
          refine wpAnyH_ready (rs := [5]) (by kernel_rfl) (by simp) ?_
          refine AllReadyH.cons rfl (fun K hK => ?_) AllReadyH.nil
          refine wapp_stepT w.heap.size wq.heap.size (.slice B k d) k (f.steps.take k) _ (nth f.steps k) A5 n' c5 (SRowD.below (SRowD.below HROW.out hbw) ((Below.refl _ _).alloc (Nat.le_refl _) _)) (hss5.below ((Below.refl _ _).alloc (Nat.le_refl _) _)) hsw (by (have h1 := hbw.size; simp; omega)) (.tmp 17) (.tmp 20) rfl rfl rfl (heap_new rfl) (by omega) (by (have h1 := hbw.size; simp; omega)) ?_
          intro v7 w7 how7 hg7 hat7
          have HX7 := Lib.hid (grown_blk hg7 (heap_old (o := .cells #[.string (nth f.steps k).name, .slice A5 n' c5, .bool (nth f.steps k).undo] 75) HX5.out) (HROW.out.ne HX.out (by decide)))
          have z1 := (blk_cl (k := 1) HX7.out rfl).1
          have z1' := (blk_cl (k := 1) HX7.out rfl).2
          have hk7 := HKG.out _ _ _ hbw hg7
          refine hK.out _ _ (hk7) (fun hH2 => ?_)
          clear hK K hH
          have hH := hH2
          (try simp only [Act.put, List.setIfInBounds_toArray])
          refine wpAnyH_takeE (i := 6) (d := some 22) (v := ?v204) rfl (by rfl) (by kernel_rfl) (by kernel_rfl) (by kernel_rfl) (fun _ _ _ h => h) (Or.inl ⟨by rfl, ?y204⟩) hH ?r204
          case y204 => (intro w' hS; (try dsimp only at hS); go_simp; (try with_reducible rfl))
          (try simp only [Act.put])
          obtain ⟨B7, d7, rfl, _⟩ := how7.hat
          refine wpAnyH_ready (rs := [7]) (by kernel_rfl) (by simp) ?_
          refine AllReadyH.cons rfl (fun K hK => ?_) AllReadyH.nil
          go_simp
          (try simp only [Oper.upon])
          refine hK.out _ _ (HKF.out _ _ _ hk7) (fun _ => ?_)
          clear hK K hH
          (try simp only [Act.put, List.setIfInBounds_toArray, List.set_cons_zero, List.set_cons_succ])
          refine wpAnyH_done (by kernel_rfl) ?_ _
          have HB5 := HBW.out.trans (hbw.mono hsw)
          have HB7a := (HB5.alloc HB5.size (.cells #[.string (nth f.steps k).name, .slice A5 n' c5, .bool (nth f.steps k).undo] 75)).grown hg7 (by have := HB5.size; simp; omega) (fun b hb => (SRowT.lt HROW.out hb).1)
          have HB7 := Lib.hid (HB7a.setCell (p := ⟨w.heap.size + 1 + 1, 1, none⟩) (by show w.heap.size ≤ w.heap.size + 1 + 1; omega) (.slice B7 (k + 1) d7))
          have HZ7 := Lib.hid (set_ne (b := w.heap.size + 1 + 1) (o := 1) (u := .slice B7 (k + 1) d7) (grown_blk hg7 (heap_old (o := .cells #[.string (nth f.steps k).name, .slice A5 n' c5, .bool (nth f.steps k).undo] 75) ((hbw.block _ (heap_lt HZ.out)).trans HZ.out)) (HROW.out.ne HZ.out (by decide))) (by omega))
          have HX8 := Lib.hid (set21 (u := .slice B7 (k + 1) d7) HX7.out)
          have HK8 := Lib.hid (how7.set (o := 1) (u := .slice B7 (k + 1) d7) HX7.out (by decide) (by decide))
          clear how7 hg7 hat7 hk7 hss5 hb5 hbw HB5 HB7a
          go_wp2_with fail
          go_roundw
          case rel => exact ⟨k + 1, B7, d7, by omega, by go_num, by rw [HT.out]; exact HK8.out, HB7.out, HZ7.out, HX8.out⟩
          case measure => simp [intOf]; omega
        · refine AllReadyH.cons rfl (fun K hK => ?_) AllReadyH.nil
          go_simp
          refine hK.out _ _ (HSB.out _ (Below.al2_ hbw _)) (fun hH2 => ?_)
          clear hK K hH
          have hH := hH2
          (try simp only [Act.put, List.setIfInBounds_toArray, List.set_cons_zero, List.set_cons_succ])
          refine wpAnyH_ready (rs := [1]) (by kernel_rfl) (by simp) ?_
          refine AllReadyH.cons rfl (fun K hK => ?_) AllReadyH.nil
          go_simp
          refine hK.out _ _ (HSB.out _ (Below.al2_ hbw _)) (fun hH2 => ?_)
          clear hK K hH
          have hH := hH2
          (try simp only [Act.put, List.setIfInBounds_toArray, List.set_cons_zero, List.set_cons_succ])
          refine wpAnyH_ready (rs := [5]) (by kernel_rfl) (by simp) ?_
          refine AllReadyH.cons rfl (fun K hK => ?_) AllReadyH.nil
          refine wapp_stepT w.heap.size wq.heap.size (.slice B k d) k (f.steps.take k) _ (nth f.steps k) A5 n' c5 (SRowD.below (SRowD.below HROW.out hbw) ((Below.refl _ _).alloc (Nat.le_refl _) _)) (hss5.below ((Below.refl _ _).alloc (Nat.le_refl _) _)) hsw (by (have h1 := hbw.size; simp; omega)) (.tmp 17) (.tmp 20) rfl rfl rfl (heap_new rfl) (by omega) (by (have h1 := hbw.size; simp; omega)) ?_
          intro v7 w7 how7 hg7 hat7
          have HX7 := Lib.hid (grown_blk hg7 (heap_old (o := .cells #[.string (nth f.steps k).name, .slice A5 n' c5, .bool (nth f.steps k).undo] 75) HX5.out) (HROW.out.ne HX.out (by decide)))
          have z1 := (blk_cl (k := 1) HX7.out rfl).1
          have z1' := (blk_cl (k := 1) HX7.out rfl).2
          have hk7 := HKG.out _ _ _ hbw hg7
          refine hK.out _ _ (hk7) (fun hH2 => ?_)
          clear hK K hH
          have hH := hH2
          (try simp only [Act.put, List.setIfInBounds_toArray])
          refine wpAnyH_takeE (i := 6) (d := some 22) (v := ?v205) rfl (by rfl) (by kernel_rfl) (by kernel_rfl) (by kernel_rfl) (fun _ _ _ h => h) (Or.inl ⟨by rfl, ?y205⟩) hH ?r205
          case y205 => (intro w' hS; (try dsimp only at hS); go_simp; (try with_reducible rfl))
          (try simp only [Act.put])
          obtain ⟨B7, d7, rfl, _⟩ := how7.hat
          refine wpAnyH_ready (rs := [7]) (by kernel_rfl) (by simp) ?_
          refine AllReadyH.cons rfl (fun K hK => ?_) AllReadyH.nil
          go_simp
          (try simp only [Oper.upon])
          refine hK.out _ _ (HKF.out _ _ _ hk7) (fun _ => ?_)
          clear hK K hH
          (try simp only [Act.put, List.setIfInBounds_toArray, List.set_cons_zero, List.set_cons_succ])
          refine wpAnyH_done (by kernel_rfl) ?_ _
          have HB5 := HBW.out.trans (hbw.mono hsw)
          have HB7a := (HB5.alloc HB5.size (.cells #[.string (nth f.steps k).name, .slice A5 n' c5, .bool (nth f.steps k).undo] 75)).grown hg7 (by have := HB5.size; simp; omega) (fun b hb => (SRowT.lt HROW.out hb).1)
          have HB7 := Lib.hid (HB7a.setCell (p := ⟨w.heap.size + 1 + 1, 1, none⟩) (by show w.heap.size ≤ w.heap.size + 1 + 1; omega) (.slice B7 (k + 1) d7))
          have HZ7 := Lib.hid (set_ne (b := w.heap.size + 1 + 1) (o := 1) (u := .slice B7 (k + 1) d7) (grown_blk hg7 (heap_old (o := .cells #[.string (nth f.steps k).name, .slice A5 n' c5, .bool (nth f.steps k).undo] 75) ((hbw.block _ (heap_lt HZ.out)).trans HZ.out)) (HROW.out.ne HZ.out (by decide))) (by omega))
          have HX8 := Lib.hid (set21 (u := .slice B7 (k + 1) d7) HX7.out)
          have HK8 := Lib.hid (how7.set (o := 1) (u := .slice B7 (k + 1) d7) HX7.out (by decide) (by decide))
          clear how7 hg7 hat7 hk7 hss5 hb5 hbw HB5 HB7a
          go_wp2_with fail
          go_roundw
          case rel => exact ⟨k + 1, B7, d7, by omega, by go_num, by rw [HT.out]; exact HK8.out, HB7.out, HZ7.out, HX8.out⟩
          case measure => simp [intOf]; omega
    · have HROW := Lib.hid hrow; clear hrow
      have HBW := Lib.hid hbw0; clear hbw0
      have HZ := Lib.hid hz; clear hz
      have HX := Lib.hid hx; clear hx
      obtain rfl : k = n := by omega
      have hkm : f.steps.take k = f.steps := by rw [← HL.out]; exact List.take_length
      rw [hkm] at HROW
      have z0 := (blk_cl (k := 0) HZ.out rfl).1
      have z0' := (blk_cl (k := 0) HZ.out rfl).2
      have z1 := (blk_cl (k := 1) HZ.out rfl).1
      have z1' := (blk_cl (k := 1) HZ.out rfl).2
      have x0 := (blk_cl (k := 0) HX.out rfl).1
      have x0' := (blk_cl (k := 0) HX.out rfl).2
      have x1 := (blk_cl (k := 1) HX.out rfl).1
      have x1' := (blk_cl (k := 1) HX.out rfl).2
      go_wp2_with fail
      have h1 := set_at (o := 0) (u := .int .i64 f.ver) HZ.out
      have hres := set21 (u := .slice B k d) (set20 (u := .int .i64 f.ver) HZ.out)
      have e0 := (blk_cl (k := 0) hres rfl).1
      have e1 := (blk_cl (k := 1) hres rfl).1
      have q1 : w.heap.size ≤ w.heap.size + 1 := by omega
      exact bodyPost_ret (v := .agg #[.int .i64 f.ver, .slice B k d]) (by simp [results, Try.results98, go_sem, e0, e1]) rfl
        ⟨_, _, rfl, (HROW.out.set (o := 0) (u := .int .i64 f.ver) HZ.out (by decide) (by decide)).set (o := 1) (u := .slice B k d) h1 (by decide) (by decide), (HBW.out.setCell (p := ⟨w.heap.size + 1, 0, none⟩) q1 _).setCell (p := ⟨w.heap.size + 1, 1, none⟩) q1 _⟩
end Go.Proofs.Ytakeijgoonagcaa

/- A flow without the steps whose guards are closed: the program's side, the result's lists apart. -/
namespace Go.Proofs.Ytakeijgoonagcaa
open Go.RowKit

set_option maxRecDepth 100000 in
set_option maxHeartbeats 4000000 in
theorem gfID_any (A G V : Option Addr) (n c ng cg nv cv : Nat) (f : Flow) (gs : List Guard) (vs : List Int) (lo log lov : Nat) (w : World) (hr : RStep w lo A n f.steps) (hok : okSteps f.steps) (hrg : RGuard w log G ng gs) (hokg : okG gs) (hrv : RInt w lov V nv vs) (hnv : nv ≤ 1048576) :
    Calls Try.prog 42 #[.agg #[.int .i64 f.ver, .slice A n c], .slice G ng cg, .slice V nv cv] w fun e w' => ∃ B m d, e = .returned (.tuple #[.agg #[.int .i64 (gfF f gs vs).ver, .slice B m d], .bool (gfB f gs vs)]) ∧ SRowT w' w.heap.size (.slice B m d) m (gfF f gs vs).steps ∧ Below w.heap.size w w' := by
  have HX := Lib.hid (heap_old (o := .cells #[.int .i64 0, .slice none 0 0] 34) (heap_new (w := w) (o := .cells #[.int .i64 f.ver, .slice A n c] 34) rfl))
  have HZ := Lib.hid (heap_new (w := w.alloc (.cells #[.int .i64 f.ver, .slice A n c] 34)) (b := w.heap.size + 1) (o := .cells #[.int .i64 0, .slice none 0 0] 34) (by simp))
  have HBW := Lib.hid (((Below.refl w.heap.size w).alloc (Nat.le_refl _) (.cells #[.int .i64 f.ver, .slice A n c] 34)).alloc (by simp) (.cells #[.int .i64 0, .slice none 0 0] 34))
  have HRW := Lib.hid ((hr.alloc (.cells #[.int .i64 f.ver, .slice A n c] 34)).alloc (.cells #[.int .i64 0, .slice none 0 0] 34)); clear hr
  have HGW := Lib.hid ((hrg.alloc (.cells #[.int .i64 f.ver, .slice A n c] 34)).alloc (.cells #[.int .i64 0, .slice none 0 0] 34)); clear hrg
  have HVW := Lib.hid ((hrv.alloc (.cells #[.int .i64 f.ver, .slice A n c] 34)).alloc (.cells #[.int .i64 0, .slice none 0 0] 34)); clear hrv
  go_enter Try.func42, Try.ntmps42
  go_upto_region 1 with fail
  generalize (w.alloc (.cells #[.int .i64 f.ver, .slice A n c] 34)).alloc (.cells #[.int .i64 0, .slice none 0 0] 34) = W at *
  have hzl := heap_lt HZ.out
  have HSF : Hid (∀ w', Below W.heap.size W w' → w'.cell? ⟨w.heap.size, 0, none⟩ = some (.int .i64 f.ver) ∧ w'.cell? ⟨w.heap.size, 1, none⟩ = some (.slice A n c)) := Lib.hid (fun w' h => by
    have e1 := (h.block _ (heap_lt HX.out)).trans HX.out
    exact ⟨(blk_cl (k := 0) e1 rfl).1, (blk_cl (k := 1) e1 rfl).1⟩)
  have HFV := Lib.hid (fun (cur : World) (h : Below W.heap.size W cur) => (flowI_any A n c f lo cur (HRW.out.below h) hok).mono (R' := fun e w' => e = .returned (.bool (flowB f)) ∧ Below W.heap.size W w') (by
    rintro e w' ⟨h1, h2⟩
    exact ⟨h1, h.trans (h2.mono h.size)⟩))
  have HGV := Lib.hid (fun (cur : World) (h : Below W.heap.size W cur) => (guardsI_any G ng cg gs log cur (HGW.out.below h) hokg).mono (R' := fun e w' => e = .returned (.bool (guardsB gs)) ∧ Below W.heap.size W w') (by
    rintro e w' ⟨h1, h2⟩
    exact ⟨h1, h.trans (h2.mono h.size)⟩))
  have HVV := Lib.hid (fun (cur : World) (h : Below W.heap.size W cur) => (varsI_any V nv cv vs lov cur (HVW.out.below h) hnv).mono (R' := fun e w' => e = .returned (.bool (varsB vs)) ∧ Below W.heap.size W w') (by
    rintro e w' ⟨h1, h2⟩
    exact ⟨h1, h2 ▸ h⟩))
  have hbw := Below.refl W.heap.size W
  obtain ⟨f0, f1⟩ := HSF.out _ hbw
  have HGB : Hid (gfB f gs vs = (flowB f && (guardsB gs && (varsB vs && flowB ⟨f.ver, gfAll f.steps (closL gs vs)⟩)))) := Lib.hid rfl
  cases hf : flowB f
  · go_upto_region 2 with (first
      | (go_at_call 47; refine (HFV.out _ hbw).mono ?_; clear f0 f1; rintro e w1 ⟨rfl, hbw⟩; (try rw [hf]); obtain ⟨f0, f1⟩ := HSF.out _ hbw)
      | (go_at_call 96; refine (HGV.out _ hbw).mono ?_; clear f0 f1; rintro e w2 ⟨rfl, hbw⟩; (try rw [hg]); obtain ⟨f0, f1⟩ := HSF.out _ hbw)
      | (go_at_call 97; refine (HVV.out _ hbw).mono ?_; clear f0 f1; rintro e w3 ⟨rfl, hbw⟩; (try rw [hv]); obtain ⟨f0, f1⟩ := HSF.out _ hbw)
      | fail "no arm")
    have HE := Lib.hid (gfF_no (by rw [HGB.out, hf]; rfl : gfB f gs vs = false))
    have HPF := Lib.hid (by rw [HGB.out, hf]; rfl : gfB f gs vs = false)
    have HZ9 := Lib.hid ((hbw.block _ (heap_lt HZ.out)).trans HZ.out)
    have z0 := (blk_cl (k := 0) HZ9.out rfl).1
    have z0' := (blk_cl (k := 0) HZ9.out rfl).2
    have z1 := (blk_cl (k := 1) HZ9.out rfl).1
    have z1' := (blk_cl (k := 1) HZ9.out rfl).2
    go_wp2_with fail
    have hres := set21 (u := .slice none 0 0) (set20 (u := .int .i64 0) HZ9.out)
    have e0 := (blk_cl (k := 0) hres rfl).1
    have e1 := (blk_cl (k := 1) hres rfl).1
    exact bodyPost_ret (v := .tuple #[.agg #[.int .i64 0, .slice none 0 0], .bool false]) (by simp [results, Try.results42, go_sem, e0, e1]) rfl ⟨none, 0, 0, by rw [HE.out, HPF.out], by rw [HE.out]; exact SRowT.nil, ((HBW.out.trans (hbw.mono HBW.out.size)).setCell (p := ⟨w.heap.size + 1, 0, none⟩) (by show w.heap.size ≤ w.heap.size + 1; omega) _).setCell (p := ⟨w.heap.size + 1, 1, none⟩) (by show w.heap.size ≤ w.heap.size + 1; omega) _⟩
  cases hg : guardsB gs
  · go_upto_region 2 with (first
      | (go_at_call 47; refine (HFV.out _ hbw).mono ?_; clear f0 f1; rintro e w1 ⟨rfl, hbw⟩; (try rw [hf]); obtain ⟨f0, f1⟩ := HSF.out _ hbw)
      | (go_at_call 96; refine (HGV.out _ hbw).mono ?_; clear f0 f1; rintro e w2 ⟨rfl, hbw⟩; (try rw [hg]); obtain ⟨f0, f1⟩ := HSF.out _ hbw)
      | (go_at_call 97; refine (HVV.out _ hbw).mono ?_; clear f0 f1; rintro e w3 ⟨rfl, hbw⟩; (try rw [hv]); obtain ⟨f0, f1⟩ := HSF.out _ hbw)
      | fail "no arm")
    have HE := Lib.hid (gfF_no (by rw [HGB.out, hf, hg]; rfl : gfB f gs vs = false))
    have HPF := Lib.hid (by rw [HGB.out, hf, hg]; rfl : gfB f gs vs = false)
    have HZ9 := Lib.hid ((hbw.block _ (heap_lt HZ.out)).trans HZ.out)
    have z0 := (blk_cl (k := 0) HZ9.out rfl).1
    have z0' := (blk_cl (k := 0) HZ9.out rfl).2
    have z1 := (blk_cl (k := 1) HZ9.out rfl).1
    have z1' := (blk_cl (k := 1) HZ9.out rfl).2
    go_wp2_with fail
    have hres := set21 (u := .slice none 0 0) (set20 (u := .int .i64 0) HZ9.out)
    have e0 := (blk_cl (k := 0) hres rfl).1
    have e1 := (blk_cl (k := 1) hres rfl).1
    exact bodyPost_ret (v := .tuple #[.agg #[.int .i64 0, .slice none 0 0], .bool false]) (by simp [results, Try.results42, go_sem, e0, e1]) rfl ⟨none, 0, 0, by rw [HE.out, HPF.out], by rw [HE.out]; exact SRowT.nil, ((HBW.out.trans (hbw.mono HBW.out.size)).setCell (p := ⟨w.heap.size + 1, 0, none⟩) (by show w.heap.size ≤ w.heap.size + 1; omega) _).setCell (p := ⟨w.heap.size + 1, 1, none⟩) (by show w.heap.size ≤ w.heap.size + 1; omega) _⟩
  cases hv : varsB vs
  · go_upto_region 2 with (first
      | (go_at_call 47; refine (HFV.out _ hbw).mono ?_; clear f0 f1; rintro e w1 ⟨rfl, hbw⟩; (try rw [hf]); obtain ⟨f0, f1⟩ := HSF.out _ hbw)
      | (go_at_call 96; refine (HGV.out _ hbw).mono ?_; clear f0 f1; rintro e w2 ⟨rfl, hbw⟩; (try rw [hg]); obtain ⟨f0, f1⟩ := HSF.out _ hbw)
      | (go_at_call 97; refine (HVV.out _ hbw).mono ?_; clear f0 f1; rintro e w3 ⟨rfl, hbw⟩; (try rw [hv]); obtain ⟨f0, f1⟩ := HSF.out _ hbw)
      | fail "no arm")
    have HE := Lib.hid (gfF_no (by rw [HGB.out, hf, hg, hv]; rfl : gfB f gs vs = false))
    have HPF := Lib.hid (by rw [HGB.out, hf, hg, hv]; rfl : gfB f gs vs = false)
    have HZ9 := Lib.hid ((hbw.block _ (heap_lt HZ.out)).trans HZ.out)
    have z0 := (blk_cl (k := 0) HZ9.out rfl).1
    have z0' := (blk_cl (k := 0) HZ9.out rfl).2
    have z1 := (blk_cl (k := 1) HZ9.out rfl).1
    have z1' := (blk_cl (k := 1) HZ9.out rfl).2
    go_wp2_with fail
    have hres := set21 (u := .slice none 0 0) (set20 (u := .int .i64 0) HZ9.out)
    have e0 := (blk_cl (k := 0) hres rfl).1
    have e1 := (blk_cl (k := 1) hres rfl).1
    exact bodyPost_ret (v := .tuple #[.agg #[.int .i64 0, .slice none 0 0], .bool false]) (by simp [results, Try.results42, go_sem, e0, e1]) rfl ⟨none, 0, 0, by rw [HE.out, HPF.out], by rw [HE.out]; exact SRowT.nil, ((HBW.out.trans (hbw.mono HBW.out.size)).setCell (p := ⟨w.heap.size + 1, 0, none⟩) (by show w.heap.size ≤ w.heap.size + 1; omega) _).setCell (p := ⟨w.heap.size + 1, 1, none⟩) (by show w.heap.size ≤ w.heap.size + 1; omega) _⟩
  go_upto_region 3 with (first
      | (go_at_call 47; refine (HFV.out _ hbw).mono ?_; clear f0 f1; rintro e w1 ⟨rfl, hbw⟩; (try rw [hf]); obtain ⟨f0, f1⟩ := HSF.out _ hbw)
      | (go_at_call 96; refine (HGV.out _ hbw).mono ?_; clear f0 f1; rintro e w2 ⟨rfl, hbw⟩; (try rw [hg]); obtain ⟨f0, f1⟩ := HSF.out _ hbw)
      | (go_at_call 97; refine (HVV.out _ hbw).mono ?_; clear f0 f1; rintro e w3 ⟨rfl, hbw⟩; (try rw [hv]); obtain ⟨f0, f1⟩ := HSF.out _ hbw)
      | fail "no arm")
  have HB3 := Lib.hid hbw
  have hs3 := hbw.size
  clear hbw
  have hfl := (flowB_iff.1 hf).2.2.1
  have hn1 : 0 < n := by rw [← HRW.out.1]; exact hfl.1
  go_wp2_with fail
  refine (flowClone_any _ _ _ f _ _ (HRW.out.below HB3.out) hok).mono ?_
  rintro e w4 ⟨B4, d4, rfl, hrow4, hb4⟩
  clear f0 f1
  obtain ⟨b, cur4, rfl, hbb4, hbk4, _, _, _⟩ := SRow.form hrow4 hn1
  have hbl4 := heap_lt hbk4
  clear hbk4 hfl
  have HB4 := Lib.hid (HB3.out.trans (hb4.mono hs3))
  have HR4 := Lib.hid ((hrow4.mono hs3).below ((Below.refl _ _).alloc (Nat.le_refl _) (.cells #[.int .i64 f.ver, .slice (some ⟨b, 0, none⟩) n d4] 34)))
  have HP4 := Lib.hid (heap_new (w := w4) (o := .cells #[.int .i64 f.ver, .slice (some ⟨b, 0, none⟩) n d4] 34) rfl)
  have HB4a := Lib.hid (HB4.out.alloc HB4.out.size (.cells #[.int .i64 f.ver, .slice (some ⟨b, 0, none⟩) n d4] 34))
  have hWp := HB4.out.size
  clear hrow4 hb4
  go_upto_region 4 with fail
  generalize w4.alloc (.cells #[.int .i64 f.ver, .slice (some ⟨b, 0, none⟩) n d4] 34) = W4 at *
  generalize w4.heap.size = p at *
  have hpl4 := heap_lt HP4.out
  go_wp2_with fail
  refine (closI_any _ _ _ _ _ _ gs vs _ _ _ (HGW.out.below HB4a.out) hokg (HVW.out.below HB4a.out) hnv).mono ?_
  rintro e w6 ⟨C, q, cq, rfl, hnm, hb6⟩
  have HLN : Hid (n = (gfTo f.steps (closL gs vs) 0).length) := Lib.hid HRW.out.1.symm
  have HP6 := Lib.hid ((hb6.block _ hpl4).trans HP4.out)
  have HR6 := Lib.hid (HR4.out.below hb6)
  have HB6 := Lib.hid (HB4a.out.trans (hb6.mono HB4a.out.size))
  have HN6 := Lib.hid hnm
  have HQL := Lib.hid hnm.1
  have hs6 := hb6.size
  have hq8 : q ≤ 8 := by rw [← hnm.1]; exact clos_small
  have hgd0 := good_flow hf
  have hN8 : (namesOf f.steps).length ≤ 8 := by rw [namesOf_len]; exact hgd0.2.1
  have HGD := Lib.hid (fun k => good_to (names := closL gs vs) hgd0 hN8 k)
  have HGN : Hid (∀ k, (namesOf (gfTo f.steps (closL gs vs) k)).Nodup) := Lib.hid (fun k => gf_nodup ((closL gs vs).take k) f.steps (flow_nodup hf))
  have HGA := Lib.hid (fun (k : Nat) (hk : (closL gs vs).length ≤ k) => gfTo_all (ss := f.steps) hk)
  clear hnm hb6 hgd0
  generalize hnames : closL gs vs = names at *
  have HNE := Lib.hid hnames
  clear hnames
  go_wp2_with fail
  go_loopw [31] (fun i wr => ∃ k : Nat, k ≤ q ∧ i = .int .i64 (k : Int) ∧ wr.heap[p]? = some (.cells #[.int .i64 f.ver, .slice (some ⟨b, 0, none⟩) (gfTo f.steps names k).length d4] 34) ∧ SRow wr W.heap.size (.slice (some ⟨b, 0, none⟩) (gfTo f.steps names k).length d4) (gfTo f.steps names k).length (gfTo f.steps names k) ∧ But p (some b) w6 wr) (fun i _ => q - (intOf i).toNat)
  case atStart => exact ⟨0, Nat.zero_le _, rfl, by rw [← HLN.out]; exact HP6.out, by rw [← HLN.out]; exact HR6.out, But.of_below (Below.refl _ _)⟩
  case round =>
    obtain ⟨wo, rfl⟩ : ∃ wo : World, wo = wr := ⟨_, rfl⟩
    obtain ⟨k, hk, rfl, hpb, hrow, hbo⟩ := hrel
    have HPB := Lib.hid hpb; clear hpb
    have HROW := Lib.hid hrow; clear hrow
    have HBO := Lib.hid hbo; clear hbo
    have HNM := Lib.hid ((HN6.out.low.but HBO.out (Nat.le_refl _) hpl4 (fun k hk => by injection hk with hk; omega)).up HBO.out.size)
    have HBE := Lib.hid (HB6.out.trans (HBO.out.below (base := W.heap.size) (by omega) (fun k hk => by injection hk with hk; omega) HB6.out.size))
    have hpl := heap_lt HPB.out
    have hso' := HBO.out.size
    have hm8 : (gfTo f.steps names k).length ≤ 8 := (HGD.out k).2.1
    have HSH : Hid (∀ j, j < (gfTo f.steps names k).length → (nth (gfTo f.steps names k) j).after.length ≤ 100) := Lib.hid (fun j hj => by
      have := good_short (HGD.out k) hN8 _ (mem_nth hj)
      omega)
    have x0 := (blk_cl (k := 0) HPB.out rfl).1
    have x1 := (blk_cl (k := 1) HPB.out rfl).1
    have HRS : Hid (RStep wo W.heap.size (some ⟨b, 0, none⟩) (gfTo f.steps names k).length (gfTo f.steps names k)) := Lib.hid (by obtain ⟨A9, c9, e9, h9⟩ := HROW.out.hat; cases e9; exact h9)
    by_cases hlt : k < q
    · have hkn : k < names.length := by rw [HQL.out]; exact hlt
      obtain ⟨bn, ofn, rfl, ⟨hbn1, hbn2⟩, hcn⟩ := RStr.at_ HNM.out hlt
      have q1 := (hcn k hlt).1
      clear hcn
      have hk0 : (0 : Int) ≤ (k : Int) := by omega
      have hk1 : (k : Int) < (q : Int) := by omega
      have hk2 : ¬ ((k : Int) < 0) := by omega
      have HAT := Lib.hid (at_any (some ⟨b, 0, none⟩) (gfTo f.steps names k).length d4 f.ver (gfTo f.steps names k) (nth names k) _ _ HRS.out (by omega))
      cases hh : hasB (namesOf (gfTo f.steps names k)) (nth names k)
      · have HT := Lib.hid (gfTo_no hkn hh)
        have hidx := idx_neg hh
        have hid2 : ¬ (0 ≤ idxI (namesOf (gfTo f.steps names k)) (nth names k)) := by omega
        have hid3 : decide (0 ≤ idxI (namesOf (gfTo f.steps names k)) (nth names k)) = false := by rw [decide_eq_false_iff_not]; exact hid2
        go_wp2_with fail
        refine HAT.out.mono ?_
        rintro e wa ⟨rfl, hba⟩
        generalize idxI (namesOf (gfTo f.steps names k)) (nth names k) = zi at *
        go_wp2_with fail
        go_roundw
        case rel => exact ⟨k + 1, by omega, by go_num, by rw [HT.out]; exact (hba.block _ hpl).trans HPB.out, by rw [HT.out]; exact HROW.out.below hba, HBO.out.trans (But.of_below hba)⟩
        case measure => simp [intOf]; omega
      · have HT := Lib.hid (gfTo_yes hkn hh)
        have hidx := idx_pos hh
        have hid2 : ¬ (idxI (namesOf (gfTo f.steps names k)) (nth names k) < 0) := by omega
        have hid3 : decide (0 ≤ idxI (namesOf (gfTo f.steps names k)) (nth names k)) = true := by rw [decide_eq_true_iff]; exact hidx
        have hpos : 0 < (gfTo f.steps names k).length := by
          have := (plc_ex hh).1; omega
        obtain ⟨m1, hm1⟩ : ∃ m1, (gfTo f.steps names k).length = m1 + 1 := ⟨(gfTo f.steps names k).length - 1, by omega⟩
        have HM1 := Lib.hid hm1
        have HM2 : Hid ((gfTo f.steps names (k + 1)).length = m1) := Lib.hid (by
          rw [HT.out]
          have h1 := congrArg List.length (wo_erase (HGN.out k) hh)
          rw [List.length_map, List.length_eraseIdx, if_pos (plc_ex hh).1, hm1] at h1
          omega)
        have hm88 : m1 + 1 ≤ 8 := by omega
        clear hm1
        go_wp2_with fail
        refine HAT.out.mono ?_
        rintro e wa ⟨rfl, hba⟩
        have HPa := Lib.hid ((hba.block _ hpl).trans HPB.out)
        have HROa := Lib.hid (HROW.out.below hba)
        have HBa := Lib.hid (HBO.out.trans (But.of_below hba))
        rw [HM1.out] at HPa HROa HSH
        clear x0 x1 q1
        generalize idxI (namesOf (gfTo f.steps names k)) (nth names k) = zi at *
        obtain ⟨b9, cur9, eb9, h91, h92, h93, hcm, h94⟩ := SRow.form HROa.out (by omega)
        have HCM := Lib.hid hcm
        clear hcm hba eb9 h91 h92 h93 h94
        go_wp2_with fail
        refine (drop_any p b m1 d4 f.ver (gfTo f.steps names k) (nth names k) W.heap.size wa HPa.out HROa.out (by omega) HSH.out (HGN.out k) hh (by omega) HCM.out).mono ?_
        rintro e wz ⟨rfl, hpz, hrz, hbz⟩
        have HPZ := Lib.hid hpz
        have HRZ := Lib.hid hrz
        have HBZ := Lib.hid (HBa.out.trans hbz)
        clear hpz hrz hbz
        go_wp2_with fail
        go_roundw
        case rel => exact ⟨k + 1, by omega, by go_num, by rw [HM2.out]; exact HPZ.out, by rw [HM2.out, HT.out]; exact HRZ.out, HBZ.out⟩
        case measure => simp [intOf]; omega
    · have hkq : k = q := by omega
      subst hkq
      have HGK := Lib.hid (HGA.out k (by rw [HQL.out]; exact Nat.le_refl _))
      go_wp2_with fail
      refine (flowI_any _ _ _ ⟨f.ver, gfTo f.steps names k⟩ _ _ HRS.out (HGD.out k).1).mono ?_
      rintro e w7 ⟨rfl, hb7⟩
      have HOK7 := Lib.hid (HGD.out k).1
      rw [HGK.out] at HOK7
      have HP7 := Lib.hid ((hb7.block _ hpl).trans HPB.out)
      have HR7 := Lib.hid (HRS.out.below hb7)
      rw [HGK.out] at HP7 HR7
      rw [HGK.out]
      have hbx := HBE.out.trans (hb7.mono HBE.out.size)
      clear x0 x1
      have x0 := (blk_cl (k := 0) HP7.out rfl).1
      have x1 := (blk_cl (k := 1) HP7.out rfl).1
      cases hfin : flowB ⟨f.ver, gfAll f.steps names⟩
      · have HE := Lib.hid (gfF_no (by rw [HGB.out, hf, hg, hv, hfin]; rfl : gfB f gs vs = false))
        have HPF := Lib.hid (by rw [HGB.out, hf, hg, hv, hfin]; rfl : gfB f gs vs = false)
        have HZ9 := Lib.hid ((hbx.block _ (heap_lt HZ.out)).trans HZ.out)
        have z0 := (blk_cl (k := 0) HZ9.out rfl).1
        have z0' := (blk_cl (k := 0) HZ9.out rfl).2
        have z1 := (blk_cl (k := 1) HZ9.out rfl).1
        have z1' := (blk_cl (k := 1) HZ9.out rfl).2
        go_wp2_with fail
        have hres := set21 (u := .slice none 0 0) (set20 (u := .int .i64 0) HZ9.out)
        have e0 := (blk_cl (k := 0) hres rfl).1
        have e1 := (blk_cl (k := 1) hres rfl).1
        exact bodyPost_ret (v := .tuple #[.agg #[.int .i64 0, .slice none 0 0], .bool false]) (by simp [results, Try.results42, go_sem, e0, e1]) rfl ⟨none, 0, 0, by rw [HE.out, HPF.out], by rw [HE.out]; exact SRowT.nil, ((HBW.out.trans (hbx.mono HBW.out.size)).setCell (p := ⟨w.heap.size + 1, 0, none⟩) (by show w.heap.size ≤ w.heap.size + 1; omega) _).setCell (p := ⟨w.heap.size + 1, 1, none⟩) (by show w.heap.size ≤ w.heap.size + 1; omega) _⟩
      · have HPT : Hid (gfB f gs vs = true) := Lib.hid (by rw [HGB.out, hf, hg, hv, hfin]; rfl)
        have HE : Hid (gfF f gs vs = ⟨f.ver, gfAll f.steps names⟩) := Lib.hid (by rw [gfF_yes HPT.out, HNE.out])
        have hsx := hbx.size
        have HBX := Lib.hid hbx
        clear hbx
        go_wp2_with fail
        refine (flowCloneD_any _ _ _ ⟨f.ver, gfAll f.steps names⟩ _ _ HR7.out HOK7.out).mono ?_
        rintro e w8 ⟨B8, d8, rfl, hrow8, hb8⟩
        have HBX8 := Lib.hid (HBX.out.trans (hb8.mono hsx))
        have HROW8 := Lib.hid (show SRowT w8 w.heap.size _ _ _ from SRowD.mono hrow8 (show w.heap.size ≤ w7.heap.size by have := HBW.out.size; omega))
        clear hrow8 hb8 x0 x1
        have HZ9 := Lib.hid ((HBX8.out.block _ (heap_lt HZ.out)).trans HZ.out)
        have z0 := (blk_cl (k := 0) HZ9.out rfl).1
        have z0' := (blk_cl (k := 0) HZ9.out rfl).2
        have z1 := (blk_cl (k := 1) HZ9.out rfl).1
        have z1' := (blk_cl (k := 1) HZ9.out rfl).2
        generalize (gfAll f.steps names).length = mm at *
        go_wp2_with fail
        have hres := set21 (u := .slice B8 mm d8) (set20 (u := .int .i64 f.ver) HZ9.out)
        have e0 := (blk_cl (k := 0) hres rfl).1
        have e1 := (blk_cl (k := 1) hres rfl).1
        exact bodyPost_ret (v := .tuple #[.agg #[.int .i64 f.ver, .slice B8 mm d8], .bool true]) (by simp [results, Try.results42, go_sem, e0, e1]) rfl ⟨B8, mm, d8, by rw [HE.out, HPT.out], by (rw [HE.out]; exact (HROW8.out.set (o := 0) (u := .int .i64 f.ver) HZ9.out (by decide) (by decide)).set (o := 1) (u := .slice B8 mm d8) (set20 HZ9.out) (by decide) (by decide)), ((HBW.out.trans (HBX8.out.mono HBW.out.size)).setCell (p := ⟨w.heap.size + 1, 0, none⟩) (by show w.heap.size ≤ w.heap.size + 1; omega) _).setCell (p := ⟨w.heap.size + 1, 1, none⟩) (by show w.heap.size ≤ w.heap.size + 1; omega) _⟩
end Go.Proofs.Ytakeijgoonagcaa

/- FnGuardsFlowTwice: the walk. -/
namespace Go.Proofs.Ytakeijgoonagcaa
open Go.RowKit

theorem sz_leU (w : World) (o : Obj) : w.heap.size ≤ (w.alloc o).heap.size := by simp
theorem gf_ok (f : Flow) (gs : List Guard) (vs : List Int) : okSteps (gfF f gs vs).steps := by
  cases h : gfB f gs vs
  · rw [gfF_no h]; exact okSteps_nil
  · rw [gfF_yes h]
    unfold gfB at h
    simp only [Bool.and_eq_true] at h
    have := (good_to (names := closL gs vs) (good_flow h.1) (by rw [namesOf_len]; exact (good_flow h.1).2.1) (closL gs vs).length).1
    rw [gfTo_all (Nat.le_refl _)] at this
    exact this

set_option maxRecDepth 100000 in
set_option maxHeartbeats 4000000 in
theorem fnGuardsFlowTwice_any (A : Option Addr) (n c : Nat) (w : World) (hr : RByte w A n) (hc : n ≤ c) :
    Calls Try.prog 10 #[.slice A n c] w fun e w' => e = .returned (.bool true) ∧ Below w.heap.size w w' := by
  have HR := Lib.hid hr; clear hr
  by_cases hn : 1048576 < n
  · go_enter Try.func10, Try.ntmps10
    go_wp2_with fail
    go_ret
    exact ⟨rfl, Below.refl _ _⟩
  go_enter Try.func10, Try.ntmps10
  go_wp2_with fail
  refine (drawGuardsFlow_any _ _ _ _ HR.out hc (by omega)).mono ?_
  rintro e w1 ⟨f, A1, n1, c1, G1, ng, cg, gs, V1, nv, cv, vs, rfl, hs, hok, h1n, h6n, hg, hokg, hv, hnv, hb1⟩
  have HOK := Lib.hid hok; clear hok
  have HOG := Lib.hid hokg; clear hokg
  have HLF := Lib.hid hs.1
  have hnv2 : nv ≤ 1048576 := by omega
  have HSA := Lib.hid (hs.alloc (.cells #[.int .i64 f.ver, .slice A1 n1 c1] 34)); clear hs
  have HGA := Lib.hid (hg.alloc (.cells #[.int .i64 f.ver, .slice A1 n1 c1] 34)); clear hg
  have HVA := Lib.hid (hv.alloc (.cells #[.int .i64 f.ver, .slice A1 n1 c1] 34)); clear hv
  have HBA := Lib.hid (hb1.alloc hb1.size (.cells #[.int .i64 f.ver, .slice A1 n1 c1] 34))
  have HXA := Lib.hid (heap_new (w := w1) (o := .cells #[.int .i64 f.ver, .slice A1 n1 c1] 34) rfl)
  clear hb1
  go_upto_region 4 with fail
  generalize w1.alloc (.cells #[.int .i64 f.ver, .slice A1 n1 c1] 34) = W1 at *
  generalize w1.heap.size = p1 at *
  have x0 := (blk_cl (k := 0) HXA.out rfl).1
  have x1 := (blk_cl (k := 1) HXA.out rfl).1
  go_wp2_with fail
  refine (gfI_any _ _ _ _ _ _ _ _ _ f gs vs _ _ _ _ HSA.out HOK.out HGA.out HOG.out HVA.out hnv2).mono ?_
  rintro e w2 ⟨B2, m2, d2, rfl, hx2, hb2⟩
  have hb2a := hb2.alloc (Nat.le_trans hb2.size (Nat.le_refl _)) (.cells #[.int .i64 (gfF f gs vs).ver, .slice B2 m2 d2] 34)
  have HYB := Lib.hid (heap_new (w := w2) (o := .cells #[.int .i64 (gfF f gs vs).ver, .slice B2 m2 d2] 34) rfl)
  have HOB := Lib.hid (hx2.below ((Below.refl _ _).alloc (Nat.le_refl _) (.cells #[.int .i64 (gfF f gs vs).ver, .slice B2 m2 d2] 34)))
  have HXB := Lib.hid ((hb2a.block _ (heap_lt HXA.out)).trans HXA.out)
  have HSB := Lib.hid (HSA.out.below hb2a)
  have HGB := Lib.hid (HGA.out.below hb2a)
  have HVB := Lib.hid (HVA.out.below hb2a)
  have HBB := Lib.hid (HBA.out.trans (hb2a.mono HBA.out.size))
  clear hb2 hb2a hx2 x0 x1
  go_upto_region 5 with fail
  generalize w2.alloc (.cells #[.int .i64 (gfF f gs vs).ver, .slice B2 m2 d2] 34) = W2 at *
  generalize w2.heap.size = p2 at *
  have x0 := (blk_cl (k := 0) HXB.out rfl).1
  have x1 := (blk_cl (k := 1) HXB.out rfl).1
  go_wp2_with fail
  refine (gfS_any _ _ _ _ _ _ _ _ _ f gs vs _ _ _ _ HSB.out HOK.out HGB.out HOG.out HVB.out hnv2).mono ?_
  rintro e w3 ⟨B3, m3, d3, rfl, hx3, hb3⟩
  obtain rfl : m3 = m2 := by rw [← hx3.len, ← HOB.out.len]
  have hb3a := hb3.alloc (Nat.le_trans hb3.size (Nat.le_refl _)) (.cells #[.int .i64 (gfF f gs vs).ver, .slice B3 m3 d3] 34)
  have HZC := Lib.hid (heap_new (w := w3) (o := .cells #[.int .i64 (gfF f gs vs).ver, .slice B3 m3 d3] 34) rfl)
  have HWC := Lib.hid (hx3.below ((Below.refl _ _).alloc (Nat.le_refl _) (.cells #[.int .i64 (gfF f gs vs).ver, .slice B3 m3 d3] 34)))
  have HXC := Lib.hid ((hb3a.block _ (heap_lt HXB.out)).trans HXB.out)
  have HYC := Lib.hid ((hb3a.block _ (heap_lt HYB.out)).trans HYB.out)
  have HSC := Lib.hid (HSB.out.below hb3a)
  have HGC := Lib.hid (HGB.out.below hb3a)
  have HVC := Lib.hid (HVB.out.below hb3a)
  have HOC := Lib.hid (HOB.out.below hb3a)
  have HBC := Lib.hid (HBB.out.trans (hb3a.mono HBB.out.size))
  clear hb3 hb3a hx3 x0 x1
  go_upto_region 6 with fail
  generalize w3.alloc (.cells #[.int .i64 (gfF f gs vs).ver, .slice B3 m3 d3] 34) = W3 at *
  generalize w3.heap.size = p3 at *
  have HGO := Lib.hid (gf_ok f gs vs)
  have HSF := Lib.hid (fun (w' : World) (h : Below W3.heap.size W3 w') => (sameFlow_same B2 B3 m3 d2 d3 (gfF f gs vs) _ _ w' (HOC.out.hat2.below h) HGO.out (HWC.out.hat2.below h)))
  have y0 := (blk_cl (k := 0) HYC.out rfl).1
  have y1 := (blk_cl (k := 1) HYC.out rfl).1
  have z0 := (blk_cl (k := 0) HZC.out rfl).1
  have z1 := (blk_cl (k := 1) HZC.out rfl).1
  have hzz : (gfB f gs vs != gfB f gs vs) = false := by simp
  have hze : (gfB f gs vs == gfB f gs vs) = true := by simp
  clear HXA HXB HYB HSA HSB HGA HGB HVA HVB HOB HBA HBB
  cases hp : gfB f gs vs
  · clear hp
    go_wp2_with fail
    refine (HSF.out W3 (Below.refl _ _)).mono ?_
    rintro e w4 ⟨rfl, hb4⟩
    have HY4 := Lib.hid ((hb4.block _ (heap_lt HYC.out)).trans HYC.out)
    have HZ4 := Lib.hid ((hb4.block _ (heap_lt HZC.out)).trans HZC.out)
    clear y0 y1 z0 z1
    have y0 := (blk_cl (k := 0) HY4.out rfl).1
    have y1 := (blk_cl (k := 1) HY4.out rfl).1
    have z0 := (blk_cl (k := 0) HZ4.out rfl).1
    have z1 := (blk_cl (k := 1) HZ4.out rfl).1
    go_wp2_with fail
    refine (HSF.out w4 hb4).mono ?_
    rintro e w5 ⟨rfl, hb5⟩
    go_wp2_with fail
    go_ret
    exact ⟨rfl, HBC.out.trans ((hb4.trans (hb5.mono hb4.size)).mono HBC.out.size)⟩
  have HP := Lib.hid hp
  clear hp hzz hze
  have hzz : (true != true) = false := rfl
  go_wp2_with fail
  refine (HSF.out W3 (Below.refl _ _)).mono ?_
  rintro e w4 ⟨rfl, hb4⟩
  have HX4 := Lib.hid ((hb4.block _ (heap_lt HXC.out)).trans HXC.out)
  have HY4 := Lib.hid ((hb4.block _ (heap_lt HYC.out)).trans HYC.out)
  have HZ4 := Lib.hid ((hb4.block _ (heap_lt HZC.out)).trans HZC.out)
  have HS4 := Lib.hid (HSC.out.below hb4)
  have HG4 := Lib.hid (HGC.out.below hb4)
  have HV4 := Lib.hid (HVC.out.below hb4)
  have HO4 := Lib.hid (HOC.out.below hb4)
  have HW4 := Lib.hid (HWC.out.below hb4)
  have HB4 := Lib.hid (HBC.out.trans (hb4.mono HBC.out.size))
  clear y0 y1 z0 z1 hb4 HSF HXC HYC HZC HSC HGC HVC HOC HWC HBC hzz
  have hfv : flowB f = true ∧ varsB vs = true := by
    have h := HP.out
    unfold gfB at h
    simp only [Bool.and_eq_true] at h
    exact ⟨h.1, h.2.2.1⟩
  have HT1 := Lib.hid (fun (w' : World) (h : Below w4.heap.size w4 w') => (gfI_any B2 G1 V1 m3 d2 ng cg nv cv (gfF f gs vs) gs vs _ _ _ w' (HO4.out.hat2.below h) HGO.out (HG4.out.below h) HOG.out (HV4.out.below h) hnv2).mono (R' := fun e w'' => ∃ B d, e = .returned (.tuple #[.agg #[.int .i64 (gfF f gs vs).ver, .slice B m3 d], .bool true]) ∧ SRow w'' w'.heap.size (.slice B m3 d) m3 (gfF f gs vs).steps ∧ Below w'.heap.size w' w'') (by
    rintro e w'' ⟨B, m, d, h1, h2, h3⟩
    rw [(gfB_twice HP.out).2] at h1 h2
    rw [(gfB_twice HP.out).1] at h1
    obtain rfl : m = m3 := by rw [← h2.len, ← HO4.out.len]
    exact ⟨B, d, h1, h2, h3⟩))
  have HT2 := Lib.hid (fun (w' : World) (h : Below w4.heap.size w4 w') (G : Option Addr) => (gfI_any A1 G V1 n1 c1 0 0 nv cv f [] vs _ w4.heap.size _ w' (HS4.out.below h) HOK.out RL.nil ⟨by simp, fun j hj => absurd hj (by simp)⟩ (HV4.out.below h) hnv2).mono (R' := fun e w'' => ∃ B d, e = .returned (.tuple #[.agg #[.int .i64 f.ver, .slice B n1 d], .bool true]) ∧ SRow w'' w'.heap.size (.slice B n1 d) n1 f.steps ∧ Below w'.heap.size w' w'') (by
    rintro e w'' ⟨B, m, d, h1, h2, h3⟩
    rw [(gfB_nil hfv.1 hfv.2).2] at h1 h2
    rw [(gfB_nil hfv.1 hfv.2).1] at h1
    obtain rfl : m = n1 := by rw [← h2.len, ← HLF.out]
    exact ⟨B, d, h1, h2, h3⟩))
  clear hfv
  have y0 := (blk_cl (k := 0) HY4.out rfl).1
  have y1 := (blk_cl (k := 1) HY4.out rfl).1
  go_wp2_with fail
  refine (HT1.out w4 (Below.refl _ _)).mono ?_
  rintro e w5 ⟨B5, d5, rfl, hx5, hb5⟩
  have hb5a := hb5.alloc (Nat.le_trans hb5.size (Nat.le_refl _)) (.cells #[.int .i64 (gfF f gs vs).ver, .slice B5 m3 d5] 34)
  have HQ5 := Lib.hid (heap_new (w := w5) (o := .cells #[.int .i64 (gfF f gs vs).ver, .slice B5 m3 d5] 34) rfl)
  have HN5 := Lib.hid (hx5.below ((Below.refl _ _).alloc (Nat.le_refl _) (.cells #[.int .i64 (gfF f gs vs).ver, .slice B5 m3 d5] 34)))
  have HX5 := Lib.hid ((hb5a.block _ (heap_lt HX4.out)).trans HX4.out)
  have HY5 := Lib.hid ((hb5a.block _ (heap_lt HY4.out)).trans HY4.out)
  have HS5 := Lib.hid (HS4.out.below hb5a)
  have HO5 := Lib.hid (HO4.out.below hb5a)
  have HB5 := Lib.hid hb5a
  clear hb5 hb5a hx5 y0 y1
  go_upto_region 9 with fail
  generalize w5.alloc (.cells #[.int .i64 (gfF f gs vs).ver, .slice B5 m3 d5] 34) = W5 at *
  generalize w5.heap.size = p5 at *
  have x0 := (blk_cl (k := 0) HX5.out rfl).1
  have x1 := (blk_cl (k := 1) HX5.out rfl).1
  go_wp2_with fail
  refine (HT2.out _ (HB5.out.alloc HB5.out.size _) _).mono ?_
  rintro e w6 ⟨B6, d6, rfl, hx6, hb6⟩
  have hb6b := (HB5.out.alloc HB5.out.size _).trans (hb6.mono (Nat.le_trans HB5.out.size (sz_leU _ _)))
  have hb6c := ((Below.refl W5.heap.size W5).alloc (Nat.le_refl _) _).trans (hb6.mono (sz_leU _ _))
  have hb6d := hb6c.alloc hb6c.size (.cells #[.int .i64 f.ver, .slice B6 n1 d6] 34)
  have hb6a := hb6b.alloc hb6b.size (.cells #[.int .i64 f.ver, .slice B6 n1 d6] 34)
  have HR6 := Lib.hid (heap_new (w := w6) (o := .cells #[.int .i64 f.ver, .slice B6 n1 d6] 34) rfl)
  have HM6 := Lib.hid (hx6.below ((Below.refl _ _).alloc (Nat.le_refl _) (.cells #[.int .i64 f.ver, .slice B6 n1 d6] 34)))
  have HX6 := Lib.hid ((hb6d.block _ (heap_lt HX5.out)).trans HX5.out)
  have HY6 := Lib.hid ((hb6d.block _ (heap_lt HY5.out)).trans HY5.out)
  have HQ6 := Lib.hid ((hb6d.block _ (heap_lt HQ5.out)).trans HQ5.out)
  have HS6 := Lib.hid (HS5.out.below hb6d)
  have HO6 := Lib.hid (HO5.out.below hb6d)
  have HN6 := Lib.hid (HN5.out.below hb6d)
  have HB6 := Lib.hid hb6a
  clear hb6 hb6a hb6b hb6c hb6d hx6 x0 x1
  go_upto_region 10 with fail
  generalize w6.alloc (.cells #[.int .i64 f.ver, .slice B6 n1 d6] 34) = W6 at *
  generalize w6.heap.size = p6 at *
  have x0 := (blk_cl (k := 0) HX6.out rfl).1
  have x1 := (blk_cl (k := 1) HX6.out rfl).1
  have y0 := (blk_cl (k := 0) HY6.out rfl).1
  have y1 := (blk_cl (k := 1) HY6.out rfl).1
  have q0 := (blk_cl (k := 0) HQ6.out rfl).1
  have q1 := (blk_cl (k := 1) HQ6.out rfl).1
  have r0 := (blk_cl (k := 0) HR6.out rfl).1
  have r1 := (blk_cl (k := 1) HR6.out rfl).1
  go_wp2_with fail
  refine (sameFlow_same B5 B2 m3 d5 d2 (gfF f gs vs) _ _ _ HN6.out.hat2 HGO.out HO6.out.hat2).mono ?_
  rintro e w7 ⟨rfl, hb7⟩
  have HX7 := Lib.hid ((hb7.block _ (heap_lt HX6.out)).trans HX6.out)
  have HR7 := Lib.hid ((hb7.block _ (heap_lt HR6.out)).trans HR6.out)
  have HS7 := Lib.hid (HS6.out.below hb7)
  have HM7 := Lib.hid (HM6.out.below hb7)
  clear x0 x1 y0 y1 q0 q1 r0 r1
  have x0 := (blk_cl (k := 0) HX7.out rfl).1
  have x1 := (blk_cl (k := 1) HX7.out rfl).1
  have r0 := (blk_cl (k := 0) HR7.out rfl).1
  have r1 := (blk_cl (k := 1) HR7.out rfl).1
  go_wp2_with fail
  refine (sameFlow_same B6 A1 n1 d6 c1 f _ _ _ HM7.out.hat2 HOK.out HS7.out).mono ?_
  rintro e w8 ⟨rfl, hb8⟩
  go_wp2_with fail
  go_ret
  exact ⟨rfl, HB4.out.trans ((HB6.out.trans ((hb7.trans (hb8.mono hb7.size)).mono HB6.out.size)).mono HB4.out.size)⟩
end Go.Proofs.Ytakeijgoonagcaa

/- Marks on guards and on numbers, behind many others. -/
namespace Go.Proofs.Ytakeijgoonagcaa
open Go.RowKit

set_option maxRecDepth 100000 in
theorem markGuardS2_any (A : Option Addr) (n c k : Nat) (xs : List Guard) (lo hi : Nat) (w : World) (hr : RH guardE w lo hi A n xs) (hn : n ≤ 1048576) (h1 : 1 ≤ k) (h2 : k ≤ 20000000000000) (hhi : hi ≤ w.heap.size) :
    Calls Try.prog 54 #[.slice A n c, .int .i64 (k : Int)] w fun e w' => e = .returned (.int .i64 ((k + 3 * n : Nat) : Int)) ∧ Out lo hi w w' := by
  have HR := Lib.hid hr; clear hr
  go_enter Try.func54, Try.ntmps54
  go_wp2_with fail
  go_loopw [1, 5] (fun q i wr => ∃ j m : Nat, ∃ ys : List Guard, j ≤ n ∧ i = .int .i64 (j : Int) ∧ q = .int .i64 (m : Int) ∧ m = k + 3 * j ∧ RH guardE wr lo hi A n ys ∧ Out lo hi w wr) (fun _ i _ => n - (intOf i).toNat)
  case atStart => exact ⟨0, k, xs, Nat.zero_le _, rfl, rfl, rfl, HR.out, Out.refl⟩
  case round =>
    obtain ⟨j, m, ys, hj, rfl, rfl, hm, hys, hb⟩ := hrel
    have HM := Lib.hid hm
    have HB := Lib.hid hb; clear hb
    have HY := Lib.hid hys; clear hys
    have hm1 : 1 ≤ m := by omega
    have hm2 : m ≤ 2305843009213693952 := by omega
    have hm3 : (m : Int) ≤ 2305843009213693952 := by omega
    clear hm
    by_cases hlt : j < n
    · obtain ⟨b, off, rfl, ⟨hb1, hb2⟩, hc⟩ := RGuard.hat HY.out hlt
      have hwr : hi ≤ wr.heap.size := Nat.le_trans hhi HB.out.size
      clear hc
      go_wp2_with fail
      refine (markText2_any m _ hm1 hm2).mono ?_
      rintro e w1 ⟨rfl, hbw⟩
      have HBW := Lib.hid hbw; clear hbw
      have HY2 := Lib.hid (HY.out.below HBW.out hwr)
      obtain ⟨b', off', e', _, hc⟩ := RGuard.hat HY2.out hlt
      injection e' with e'; injection e' with e1 e2
      subst e1; subst e2
      obtain ⟨⟨f1, f2, f3⟩, g1, g2, g3⟩ := hc j hlt
      clear hc
      go_wp2_with fail
      go_roundw
      case rel =>
        exact ⟨j + 1, m + 3, ys.set j ⟨markS m, (m : Int) + 1, (m : Int) + 2⟩, by omega, by go_num, by go_num, by rw [HM.out]; omega, RGuard.hset HY2.out hlt ⟨markS m, (m : Int) + 1, (m : Int) + 2⟩, (((HB.out.trans (Out.of_below HBW.out)).set_ hb1 hb2 _ _).set_ hb1 hb2 _ _).set_ hb1 hb2 _ _⟩
      case measure => simp [intOf]; omega
    · go_wp2_with fail
      go_ret
      exact ⟨ret_i (by rw [HM.out, show j = n by omega]), HB.out⟩
set_option maxRecDepth 100000 in
theorem markIntS2_any (A : Option Addr) (n c k : Nat) (xs : List Int) (lo hi : Nat) (w : World) (hr : RH intE w lo hi A n xs) (hn : n ≤ 1048576) (h2 : k ≤ 30000000000000) :
    Calls Try.prog 55 #[.slice A n c, .int .i64 (k : Int)] w fun e w' => e = .returned (.int .i64 ((k + n : Nat) : Int)) ∧ RH intE w' lo hi A n (marksI k n) ∧ Out lo hi w w' := by
  have HR := Lib.hid hr; clear hr
  go_enter Try.func55, Try.ntmps55
  go_wp2_with fail
  go_loopw [1, 5] (fun q i wr => ∃ j m : Nat, ∃ ys : List Int, j ≤ n ∧ i = .int .i64 (j : Int) ∧ q = .int .i64 (m : Int) ∧ m = k + j ∧ RH intE wr lo hi A n ys ∧ (∀ l, l < j → nth ys l = ((k + l : Nat) : Int)) ∧ Out lo hi w wr) (fun _ i _ => n - (intOf i).toNat)
  case atStart => exact ⟨0, k, xs, Nat.zero_le _, rfl, rfl, rfl, HR.out, fa_zero, Out.refl⟩
  case round =>
    obtain ⟨j, m, ys, hj, rfl, rfl, hm, hys, hp, hb⟩ := hrel
    have HM := Lib.hid hm
    have HP := Lib.hid hp; clear hp
    have HB := Lib.hid hb; clear hb
    have HY := Lib.hid hys; clear hys
    have hm3 : (m : Int) ≤ 2305843009213693952 := by omega
    clear hm
    by_cases hlt : j < n
    · obtain ⟨b, off, rfl, ⟨hb1, hb2⟩, hc⟩ := RInt.hat HY.out hlt
      obtain ⟨c1, c2⟩ := hc j hlt
      clear hc
      go_wp2_with fail
      go_roundw
      case rel =>
        refine ⟨j + 1, m + 1, ys.set j (m : Int), by omega, by go_num, by go_num, by rw [HM.out, Nat.add_assoc], RInt.hset HY.out hlt _, ?_, HB.out.set_ hb1 hb2 _ _⟩
        intro l hl
        rw [nth_set (by rw [HY.out.1]; exact hlt)]
        by_cases e : l = j
        · rw [if_pos e, e, HM.out]
        · rw [if_neg e]; exact HP.out l (by omega)
      case measure => simp [intOf]; omega
    · go_wp2_with fail
      go_ret
      refine ⟨ret_i (by rw [HM.out, show j = n by omega]), ?_, HB.out⟩
      have e : ys = marksI k n := list_ext (by rw [HY.out.1, marksI_len]) (fun l hl => by rw [HP.out l (by rw [HY.out.1] at hl; omega), marksI_at (by rw [HY.out.1] at hl; exact hl)])
      rw [← e]; exact HY.out
end Go.Proofs.Ytakeijgoonagcaa

/- FnExactGuardsFlow: the walk. -/
namespace Go.Proofs.Ytakeijgoonagcaa
open Go.RowKit

theorem Out.below0 {lo hi B : Nat} {w w' : World} (h : Out lo hi w w') (hl : B ≤ lo) (hs : B ≤ w.heap.size) : Below B w w' := ⟨h.os, h.tape, h.output, h.size, fun i hi => h.block i (by omega) (.inl (by omega))⟩
theorem gf_small {f : Flow} {gs : List Guard} {vs : List Int} : (gfF f gs vs).steps.length ≤ 8 ∧ ∀ j, j < (gfF f gs vs).steps.length → (nth (gfF f gs vs).steps j).after.length ≤ 1000 := by
  cases h : gfB f gs vs
  · rw [gfF_no h]
    exact ⟨Nat.zero_le _, fun j hj => absurd hj (by simp)⟩
  · have hfl : flowB (gfF f gs vs) = true := by
      have e := gfF_yes h
      unfold gfB at h
      simp only [Bool.and_eq_true] at h
      rw [e]; exact h.2.2.2
    exact ⟨(flowB_iff.1 hfl).2.2.1.2, fun j hj => by have := (stepB_names (step_ok hfl hj)).2.1; omega⟩

set_option maxRecDepth 100000 in
set_option maxHeartbeats 16000000 in
theorem fnExactGuardsFlow_any (A G V : Option Addr) (n c ng cg nv cv : Nat) (f : Flow) (gs : List Guard) (vs : List Int) (w : World) (hr : RStep w 0 A n f.steps) (hn : n ≤ maxLen) (hs : ∀ j, j < n → stepSz (nth f.steps j)) (hg : RGuard w 0 G ng gs) (hgn : ng ≤ maxLen) (hgs : ∀ j, j < ng → (nth gs j).name.size ≤ maxLen) (hv : RInt w 0 V nv vs) (_ : nv ≤ maxLen) :
    Calls Try.prog 13 #[.agg #[.int .i64 f.ver, .slice A n c], .slice G ng cg, .slice V nv cv] w fun e w' => e = .returned (.bool true) ∧ Below w.heap.size w w' := by
  have HN := Lib.hid hn; clear hn
  have HS := Lib.hid hs; clear hs
  have HGN := Lib.hid hgn; clear hgn
  have HGS := Lib.hid hgs; clear hgs
  have HX0 := Lib.hid (heap_new (w := w) (o := .cells #[.int .i64 f.ver, .slice A n c] 24) rfl)
  have HB0 := Lib.hid ((Below.refl w.heap.size w).alloc (Nat.le_refl _) (.cells #[.int .i64 f.ver, .slice A n c] 24))
  have HR0 := Lib.hid (hr.alloc (.cells #[.int .i64 f.ver, .slice A n c] 24)); clear hr
  have HG0 := Lib.hid (hg.alloc (.cells #[.int .i64 f.ver, .slice A n c] 24)); clear hg
  have HV0 := Lib.hid (hv.alloc (.cells #[.int .i64 f.ver, .slice A n c] 24)); clear hv
  by_cases hlong : 1048576 < nv
  · have hlong2 : (1048576 : Int) < (nv : Int) := by omega
    go_enter Try.func13, Try.ntmps13
    go_wp2_with fail
    go_ret
    exact ⟨rfl, HB0.out⟩
  have hnv : nv ≤ 1048576 := by omega
  have hlong2 : ¬ ((1048576 : Int) < (nv : Int)) := by omega
  clear hlong
  go_enter Try.func13, Try.ntmps13
  go_upto_region 1 with fail
  generalize w.alloc (.cells #[.int .i64 f.ver, .slice A n c] 24) = w0 at *
  have hp0 := heap_lt HX0.out
  have HK : Hid (∀ w', Below w0.heap.size w0 w' → (w'.cell? ⟨w.heap.size, 0, none⟩ = some (.int .i64 f.ver) ∧ w'.cell? ⟨w.heap.size, 1, none⟩ = some (.slice A n c)) ∧ RStep w' 0 A n f.steps ∧ RGuard w' 0 G ng gs ∧ RInt w' 0 V nv vs ∧ Below w.heap.size w w') := Lib.hid (fun w' h => by
    have e1 := (h.block w.heap.size hp0).trans HX0.out
    exact ⟨⟨(blk_cl (k := 0) e1 rfl).1, (blk_cl (k := 1) e1 rfl).1⟩, HR0.out.below h, HG0.out.below h, HV0.out.below h, HB0.out.trans (h.mono HB0.out.size)⟩)
  obtain ⟨⟨b0, b1⟩, _⟩ := HK.out _ (Below.refl _ _)
  go_wp2_with fail
  refine (szFlow_any _ _ _ f _ _ _ HR0.out HN.out HS.out (by omega) (by omega)).mono ?_
  rintro e w1 ⟨r, rfl, hr0, hr1, hb1⟩
  have HBw1 := Lib.hid hb1; clear hb1 b0 b1
  by_cases hneg : r < 0
  · clear hr1
    go_wp2_with fail
    go_ret
    exact ⟨rfl, (HK.out _ HBw1.out).2.2.2.2⟩
  obtain ⟨hle, hok⟩ := hr1 (by omega)
  have HOK := Lib.hid hok; clear hok hr0
  go_wp2_with fail
  refine (szGuardS_any _ _ _ gs _ _ _ (HK.out _ HBw1.out).2.2.1 HGN.out HGS.out (by omega) (by omega)).mono ?_
  rintro e w2 ⟨r2, rfl, hr20, hr21, hb2⟩
  have HBw2 := Lib.hid (HBw1.out.trans (hb2.mono HBw1.out.size)); clear hb2 HBw1
  by_cases hneg2 : r2 < 0
  · clear hr21
    go_wp2_with fail
    go_ret
    exact ⟨rfl, (HK.out _ HBw2.out).2.2.2.2⟩
  obtain ⟨_, hng, hokg⟩ := hr21 (by omega)
  have HOG := Lib.hid hokg; clear hokg hr20 hle
  have HSM := Lib.hid (gf_small (f := f) (gs := gs) (vs := vs))
  have HGO := Lib.hid (gf_ok f gs vs)
  have hsw2 := HBw2.out.size
  obtain ⟨⟨b0, b1⟩, _, _, _, _⟩ := HK.out _ HBw2.out
  go_wp2_with fail
  refine (toFlow_any _ _ _ f _ _ (HK.out _ HBw2.out).2.1 HOK.out).mono ?_
  rintro e w3 ⟨Aw3, cw3, rfl, hw3, hbw3⟩
  have RAw3 : Hid (RH stepE w3 w2.heap.size w3.heap.size Aw3 n f.steps) := Lib.hid hw3
  have HBw3 := Lib.hid (HBw2.out.trans (hbw3.mono HBw2.out.size))
  have hsw3 := hbw3.size
  clear HBw2
  clear hw3 hbw3 b0 b1
  go_wp2_with fail
  refine (toGuardS_any _ _ _ gs _ _ (HK.out _ HBw3.out).2.2.1 hng).mono ?_
  rintro e w4 ⟨Aw4, cw4, rfl, hw4, hbw4⟩
  have RGw4 : Hid (RH guardE w4 w3.heap.size w4.heap.size Aw4 ng gs) := Lib.hid hw4
  have RAw4 := Lib.hid (RAw3.out.below hbw4 (by omega))
  have HBw4 := Lib.hid (HBw3.out.trans (hbw4.mono HBw3.out.size))
  have hsw4 := hbw4.size
  clear RAw3 HBw3
  clear hw4 hbw4
  go_wp2_with fail
  refine (toIntS_any _ _ _ vs _ _ (HK.out _ HBw4.out).2.2.2.1 hnv).mono ?_
  rintro e w5 ⟨Aw5, cw5, rfl, hw5, hbw5⟩
  have RVw5 : Hid (RH intE w5 w4.heap.size w5.heap.size Aw5 nv vs) := Lib.hid hw5
  have RAw5 := Lib.hid (RAw4.out.below hbw5 (by omega))
  have RGw5 := Lib.hid (RGw4.out.below hbw5 (by omega))
  have HBw5 := Lib.hid (HBw4.out.trans (hbw5.mono HBw4.out.size))
  have hsw5 := hbw5.size
  clear RAw4 RGw4 HBw4
  clear hw5 hbw5
  go_wp2_with fail
  refine (gfS_any _ _ _ _ _ _ _ _ _ f gs vs _ _ _ _ (RAw5.out.up (by omega)) HOK.out (RGw5.out.up (by omega)) HOG.out (RVw5.out.up (Nat.le_refl _)) hnv).mono ?_
  rintro e w6 ⟨B8, m8, d8, rfl, h8, hb8⟩
  have RWw6 : Hid (RH stepE w6 w5.heap.size w6.heap.size B8 m8 (gfF f gs vs).steps) := Lib.hid h8.hat2
  have hm8 : m8 ≤ 8 := by rw [← h8.len]; exact HSM.out.1
  have HL8 := Lib.hid h8.len
  clear h8
  have HBw6 := Lib.hid (HBw5.out.trans (hb8.mono HBw5.out.size))
  have hsw6 := hb8.size
  clear HBw5
  clear hb8
  have haw7 := (Below.refl w6.heap.size w6).alloc (Nat.le_refl _) (.cells #[.int .i64 (gfF f gs vs).ver, .slice B8 m8 d8] 34)
  have hzw7 : (w6.alloc (.cells #[.int .i64 (gfF f gs vs).ver, .slice B8 m8 d8] 34)).heap.size = w6.heap.size + 1 := by simp
  have X8w7 := Lib.hid (heap_new (w := w6) (o := .cells #[.int .i64 (gfF f gs vs).ver, .slice B8 m8 d8] 34) rfl)
  go_upto_region 11 with fail
  generalize hgw7 : w6.alloc (.cells #[.int .i64 (gfF f gs vs).ver, .slice B8 m8 d8] 34) = w7 at *
  clear hgw7
  have RWw7 := Lib.hid (RWw6.out.below haw7 (by omega))
  have HBw7 := Lib.hid (HBw6.out.trans (haw7.mono HBw6.out.size))
  have hsw7 := haw7.size
  clear RWw6 HBw6
  have hzzw7 : w6.heap.size < w7.heap.size := by omega
  clear hzw7 haw7
  obtain ⟨⟨b0, b1⟩, _, _, _, _⟩ := HK.out _ HBw7.out
  go_wp2_with fail
  refine (toFlow_any _ _ _ f _ _ (HK.out _ HBw7.out).2.1 HOK.out).mono ?_
  rintro e w8 ⟨Aw8, cw8, rfl, hw8, hbw8⟩
  have RXw8 : Hid (RH stepE w8 w7.heap.size w8.heap.size Aw8 n f.steps) := Lib.hid hw8
  have X8w8 := Lib.hid ((hbw8.block _ (heap_lt X8w7.out)).trans X8w7.out)
  have RWw8 := Lib.hid (RWw7.out.below hbw8 (by omega))
  have HBw8 := Lib.hid (HBw7.out.trans (hbw8.mono HBw7.out.size))
  have hsw8 := hbw8.size
  clear X8w7 RWw7 HBw7
  clear hw8 hbw8 b0 b1
  have haw9 := (Below.refl w8.heap.size w8).alloc (Nat.le_refl _) (.cells #[.int .i64 f.ver, .slice Aw8 n cw8] 34)
  have hzw9 : (w8.alloc (.cells #[.int .i64 f.ver, .slice Aw8 n cw8] 34)).heap.size = w8.heap.size + 1 := by simp
  have X10w9 := Lib.hid (heap_new (w := w8) (o := .cells #[.int .i64 f.ver, .slice Aw8 n cw8] 34) rfl)
  go_upto_region 12 with fail
  generalize hgw9 : w8.alloc (.cells #[.int .i64 f.ver, .slice Aw8 n cw8] 34) = w9 at *
  clear hgw9
  have X8w9 := Lib.hid ((haw9.block _ (heap_lt X8w8.out)).trans X8w8.out)
  have RWw9 := Lib.hid (RWw8.out.below haw9 (by omega))
  have RXw9 := Lib.hid (RXw8.out.below haw9 (by omega))
  have HBw9 := Lib.hid (HBw8.out.trans (haw9.mono HBw8.out.size))
  have hsw9 := haw9.size
  clear X8w8 RWw8 RXw8 HBw8
  have hzzw9 : w8.heap.size < w9.heap.size := by omega
  clear hzw9 haw9
  go_wp2_with fail
  refine (toGuardS_any _ _ _ gs _ _ (HK.out _ HBw9.out).2.2.1 hng).mono ?_
  rintro e w10 ⟨Aw10, cw10, rfl, hw10, hbw10⟩
  have RYw10 : Hid (RH guardE w10 w9.heap.size w10.heap.size Aw10 ng gs) := Lib.hid hw10
  have X8w10 := Lib.hid ((hbw10.block _ (heap_lt X8w9.out)).trans X8w9.out)
  have X10w10 := Lib.hid ((hbw10.block _ (heap_lt X10w9.out)).trans X10w9.out)
  have RWw10 := Lib.hid (RWw9.out.below hbw10 (by omega))
  have RXw10 := Lib.hid (RXw9.out.below hbw10 (by omega))
  have HBw10 := Lib.hid (HBw9.out.trans (hbw10.mono HBw9.out.size))
  have hsw10 := hbw10.size
  clear X8w9 X10w9 RWw9 RXw9 HBw9
  clear hw10 hbw10
  go_wp2_with fail
  refine (toIntS_any _ _ _ vs _ _ (HK.out _ HBw10.out).2.2.2.1 hnv).mono ?_
  rintro e w11 ⟨Aw11, cw11, rfl, hw11, hbw11⟩
  have RZw11 : Hid (RH intE w11 w10.heap.size w11.heap.size Aw11 nv vs) := Lib.hid hw11
  have X8w11 := Lib.hid ((hbw11.block _ (heap_lt X8w10.out)).trans X8w10.out)
  have X10w11 := Lib.hid ((hbw11.block _ (heap_lt X10w10.out)).trans X10w10.out)
  have RWw11 := Lib.hid (RWw10.out.below hbw11 (by omega))
  have RXw11 := Lib.hid (RXw10.out.below hbw11 (by omega))
  have RYw11 := Lib.hid (RYw10.out.below hbw11 (by omega))
  have HBw11 := Lib.hid (HBw10.out.trans (hbw11.mono HBw10.out.size))
  have hsw11 := hbw11.size
  clear X8w10 X10w10 RWw10 RXw10 RYw10 HBw10
  clear hw11 hbw11
  have x0 := (blk_cl (k := 0) X10w11.out rfl).1
  have x1 := (blk_cl (k := 1) X10w11.out rfl).1
  go_wp2_with fail
  refine (gfID_any _ _ _ _ _ _ _ _ _ f gs vs _ _ _ _ (RXw11.out.up (by omega)) HOK.out (RYw11.out.up (by omega)) HOG.out (RZw11.out.up (Nat.le_refl _)) hnv).mono ?_
  rintro e w12 ⟨B13, m13, d13, rfl, h13, hb13⟩
  obtain rfl : m13 = m8 := by rw [← h13.row.len, ← HL8.out]
  obtain ⟨A9, c9, e9, hds⟩ := SRowD.dr h13
  injection e9 with e9 _ e10
  subst e9; subst e10
  have DGw12 : Hid (DSR w12 w11.heap.size w12.heap.size B13 m13 (gfF f gs vs).steps) := Lib.hid hds
  clear hds h13 x0 x1
  have X8w12 := Lib.hid ((hb13.block _ (heap_lt X8w11.out)).trans X8w11.out)
  have X10w12 := Lib.hid ((hb13.block _ (heap_lt X10w11.out)).trans X10w11.out)
  have RWw12 := Lib.hid (RWw11.out.below hb13 (by omega))
  have RXw12 := Lib.hid (RXw11.out.below hb13 (by omega))
  have RYw12 := Lib.hid (RYw11.out.below hb13 (by omega))
  have RZw12 := Lib.hid (RZw11.out.below hb13 (by omega))
  have HBw12 := Lib.hid (HBw11.out.trans (hb13.mono HBw11.out.size))
  have hsw12 := hb13.size
  clear X8w11 X10w11 RWw11 RXw11 RYw11 RZw11 HBw11
  clear hb13
  have haw13 := (Below.refl w12.heap.size w12).alloc (Nat.le_refl _) (.cells #[.int .i64 (gfF f gs vs).ver, .slice B13 m13 d13] 34)
  have hzw13 : (w12.alloc (.cells #[.int .i64 (gfF f gs vs).ver, .slice B13 m13 d13] 34)).heap.size = w12.heap.size + 1 := by simp
  have X13w13 := Lib.hid (heap_new (w := w12) (o := .cells #[.int .i64 (gfF f gs vs).ver, .slice B13 m13 d13] 34) rfl)
  go_upto_region 15 with fail
  generalize hgw13 : w12.alloc (.cells #[.int .i64 (gfF f gs vs).ver, .slice B13 m13 d13] 34) = w13 at *
  clear hgw13
  have X8w13 := Lib.hid ((haw13.block _ (heap_lt X8w12.out)).trans X8w12.out)
  have X10w13 := Lib.hid ((haw13.block _ (heap_lt X10w12.out)).trans X10w12.out)
  have RWw13 := Lib.hid (RWw12.out.below haw13 (by omega))
  have RXw13 := Lib.hid (RXw12.out.below haw13 (by omega))
  have RYw13 := Lib.hid (RYw12.out.below haw13 (by omega))
  have RZw13 := Lib.hid (RZw12.out.below haw13 (by omega))
  have DGw13 := Lib.hid (DGw12.out.below haw13)
  have HBw13 := Lib.hid (HBw12.out.trans (haw13.mono HBw12.out.size))
  have hsw13 := haw13.size
  clear X8w12 X10w12 RWw12 RXw12 RYw12 RZw12 DGw12 HBw12
  have hzzw13 : w12.heap.size < w13.heap.size := by omega
  clear hzw13 haw13
  have hpe : (gfB f gs vs != gfB f gs vs) = false := by simp
  have x0 := (blk_cl (k := 0) X13w13.out rfl).1
  have x1 := (blk_cl (k := 1) X13w13.out rfl).1
  have y0 := (blk_cl (k := 0) X8w13.out rfl).1
  have y1 := (blk_cl (k := 1) X8w13.out rfl).1
  go_wp2_with fail
  refine (eqFlow_same B13 B8 m13 d13 d8 (gfF f gs vs) _ _ _ DGw13.out.hat HGO.out (RWw13.out.up (by omega))).mono ?_
  rintro e w14 ⟨rfl, hbw14⟩
  have X8w14 := Lib.hid ((hbw14.block _ (heap_lt X8w13.out)).trans X8w13.out)
  have X10w14 := Lib.hid ((hbw14.block _ (heap_lt X10w13.out)).trans X10w13.out)
  have X13w14 := Lib.hid ((hbw14.block _ (heap_lt X13w13.out)).trans X13w13.out)
  have RWw14 := Lib.hid (RWw13.out.below hbw14 (by omega))
  have RXw14 := Lib.hid (RXw13.out.below hbw14 (by omega))
  have RYw14 := Lib.hid (RYw13.out.below hbw14 (by omega))
  have RZw14 := Lib.hid (RZw13.out.below hbw14 (by omega))
  have DGw14 := Lib.hid (DGw13.out.below hbw14)
  have HBw14 := Lib.hid (HBw13.out.trans (hbw14.mono HBw13.out.size))
  have hsw14 := hbw14.size
  clear X8w13 X10w13 X13w13 RWw13 RXw13 RYw13 RZw13 DGw13 HBw13
  clear hbw14 x0 x1 y0 y1
  have HSB : Hid (∀ w', Below w14.heap.size w14 w' → ((w'.cell? ⟨w.heap.size, 0, none⟩ = some (.int .i64 f.ver) ∧ w'.cell? ⟨w.heap.size, 1, none⟩ = some (.slice A n c)) ∧ (w'.cell? ⟨w8.heap.size, 0, none⟩ = some (.int .i64 f.ver) ∧ w'.cell? ⟨w8.heap.size, 1, none⟩ = some (.slice Aw8 n cw8))) ∧ Below w14.heap.size w14 w') := Lib.hid (fun w' h => by
    have e2 := (h.block _ (heap_lt X10w14.out)).trans X10w14.out
    exact ⟨⟨(HK.out _ (HBw14.out.trans (h.mono HBw14.out.size))).1, (blk_cl (k := 0) e2 rfl).1, (blk_cl (k := 1) e2 rfl).1⟩, h⟩)
  have HFX : Hid (RStep w14 _ _ n f.steps) := Lib.hid (RXw14.out.up (by omega))
  go_wp2_with fail
  go_region_held3 (fun w' => ((w'.cell? ⟨w.heap.size, 0, none⟩ = some (.int .i64 f.ver) ∧ w'.cell? ⟨w.heap.size, 1, none⟩ = some (.slice A n c)) ∧ (w'.cell? ⟨w8.heap.size, 0, none⟩ = some (.int .i64 f.ver) ∧ w'.cell? ⟨w8.heap.size, 1, none⟩ = some (.slice Aw8 n cw8))) ∧ Below w14.heap.size w14 w')
    (first | exact HSB.out _ hbw | exact HSB.out _ (Below.refl _ _).drew | fail "keep")
    (first
      | (go_at_call 17; refine (toFlow_any _ _ _ f _ _ ((HK.out _ HBw14.out).2.1.below (Below.refl _ _).drew) HOK.out).mono ?_; rintro e w90 ⟨A90, c90, rfl, h90, hb90⟩; have hbw : Below w14.heap.size w14 w90 := (Below.refl w14.heap.size w14).drew.trans hb90)
      | (go_at_call 22; refine (eqFlow_same _ _ _ _ _ f _ _ _ (HFX.out.below hbw) HOK.out h90).mono ?_; rintro e w15 ⟨rfl, hb91⟩; replace hbw := hbw.trans (hb91.mono hbw.size))
      | fail "no arm")
  clear HSB HFX hb90 hb91 h90
  have X8w15 := Lib.hid ((hbw.block _ (heap_lt X8w14.out)).trans X8w14.out)
  have X10w15 := Lib.hid ((hbw.block _ (heap_lt X10w14.out)).trans X10w14.out)
  have X13w15 := Lib.hid ((hbw.block _ (heap_lt X13w14.out)).trans X13w14.out)
  have RWw15 := Lib.hid (RWw14.out.below hbw (by omega))
  have RXw15 := Lib.hid (RXw14.out.below hbw (by omega))
  have RYw15 := Lib.hid (RYw14.out.below hbw (by omega))
  have RZw15 := Lib.hid (RZw14.out.below hbw (by omega))
  have DGw15 := Lib.hid (DGw14.out.below hbw)
  have HBw15 := Lib.hid (HBw14.out.trans (hbw.mono HBw14.out.size))
  have hsw15 := hbw.size
  clear X8w14 X10w14 X13w14 RWw14 RXw14 RYw14 RZw14 DGw14 HBw14
  clear hbw
  go_wp2_with fail
  refine (toGuardS_any _ _ _ gs _ _ (HK.out _ HBw15.out).2.2.1 hng).mono ?_
  rintro e w16 ⟨Aw16, cw16, rfl, hw16, hbw16⟩
  have Hw16 : Hid (RH guardE w16 w15.heap.size w16.heap.size Aw16 ng gs) := Lib.hid hw16
  have X8w16 := Lib.hid ((hbw16.block _ (heap_lt X8w15.out)).trans X8w15.out)
  have X10w16 := Lib.hid ((hbw16.block _ (heap_lt X10w15.out)).trans X10w15.out)
  have X13w16 := Lib.hid ((hbw16.block _ (heap_lt X13w15.out)).trans X13w15.out)
  have RWw16 := Lib.hid (RWw15.out.below hbw16 (by omega))
  have RXw16 := Lib.hid (RXw15.out.below hbw16 (by omega))
  have RYw16 := Lib.hid (RYw15.out.below hbw16 (by omega))
  have RZw16 := Lib.hid (RZw15.out.below hbw16 (by omega))
  have DGw16 := Lib.hid (DGw15.out.below hbw16)
  have HBw16 := Lib.hid (HBw15.out.trans (hbw16.mono HBw15.out.size))
  have hsw16 := hbw16.size
  clear X8w15 X10w15 X13w15 RWw15 RXw15 RYw15 RZw15 DGw15 HBw15
  clear hw16 hbw16
  go_wp2_with fail
  refine (eqGuardS_same _ _ _ _ _ gs _ _ _ (RYw16.out.up (by omega)) hng (Hw16.out.up (Nat.le_refl _))).mono ?_
  rintro e w17 ⟨rfl, hbw17⟩
  have X8w17 := Lib.hid ((hbw17.block _ (heap_lt X8w16.out)).trans X8w16.out)
  have X10w17 := Lib.hid ((hbw17.block _ (heap_lt X10w16.out)).trans X10w16.out)
  have X13w17 := Lib.hid ((hbw17.block _ (heap_lt X13w16.out)).trans X13w16.out)
  have RWw17 := Lib.hid (RWw16.out.below hbw17 (by omega))
  have RXw17 := Lib.hid (RXw16.out.below hbw17 (by omega))
  have RYw17 := Lib.hid (RYw16.out.below hbw17 (by omega))
  have RZw17 := Lib.hid (RZw16.out.below hbw17 (by omega))
  have DGw17 := Lib.hid (DGw16.out.below hbw17)
  have HBw17 := Lib.hid (HBw16.out.trans (hbw17.mono HBw16.out.size))
  have hsw17 := hbw17.size
  clear X8w16 X10w16 X13w16 RWw16 RXw16 RYw16 RZw16 DGw16 HBw16
  clear hbw17 Hw16
  go_wp2_with fail
  refine (toIntS_any _ _ _ vs _ _ (HK.out _ HBw17.out).2.2.2.1 hnv).mono ?_
  rintro e w18 ⟨Aw18, cw18, rfl, hw18, hbw18⟩
  have Hw18 : Hid (RH intE w18 w17.heap.size w18.heap.size Aw18 nv vs) := Lib.hid hw18
  have X8w18 := Lib.hid ((hbw18.block _ (heap_lt X8w17.out)).trans X8w17.out)
  have X10w18 := Lib.hid ((hbw18.block _ (heap_lt X10w17.out)).trans X10w17.out)
  have X13w18 := Lib.hid ((hbw18.block _ (heap_lt X13w17.out)).trans X13w17.out)
  have RWw18 := Lib.hid (RWw17.out.below hbw18 (by omega))
  have RXw18 := Lib.hid (RXw17.out.below hbw18 (by omega))
  have RYw18 := Lib.hid (RYw17.out.below hbw18 (by omega))
  have RZw18 := Lib.hid (RZw17.out.below hbw18 (by omega))
  have DGw18 := Lib.hid (DGw17.out.below hbw18)
  have HBw18 := Lib.hid (HBw17.out.trans (hbw18.mono HBw17.out.size))
  have hsw18 := hbw18.size
  clear X8w17 X10w17 X13w17 RWw17 RXw17 RYw17 RZw17 DGw17 HBw17
  clear hw18 hbw18
  go_wp2_with fail
  refine (eqIntS_same _ _ _ _ _ vs _ _ _ (RZw18.out.up (by omega)) hnv (Hw18.out.up (Nat.le_refl _))).mono ?_
  rintro e w19 ⟨rfl, qw19, hqw19⟩
  have hbw19 : Below w18.heap.size w18 w19 := by rw [hqw19]; exact below_drewN (Below.refl _ _) _
  clear hqw19
  have X8w19 := Lib.hid ((hbw19.block _ (heap_lt X8w18.out)).trans X8w18.out)
  have X10w19 := Lib.hid ((hbw19.block _ (heap_lt X10w18.out)).trans X10w18.out)
  have X13w19 := Lib.hid ((hbw19.block _ (heap_lt X13w18.out)).trans X13w18.out)
  have RWw19 := Lib.hid (RWw18.out.below hbw19 (by omega))
  have RXw19 := Lib.hid (RXw18.out.below hbw19 (by omega))
  have RYw19 := Lib.hid (RYw18.out.below hbw19 (by omega))
  have RZw19 := Lib.hid (RZw18.out.below hbw19 (by omega))
  have DGw19 := Lib.hid (DGw18.out.below hbw19)
  have HBw19 := Lib.hid (HBw18.out.trans (hbw19.mono HBw18.out.size))
  have hsw19 := hbw19.size
  clear X8w18 X10w18 X13w18 RWw18 RXw18 RYw18 RZw18 DGw18 HBw18
  clear hbw19 Hw18
  have hnn : n ≤ 1048576 := by have h1 := HOK.out.1; have h2 := (HK.out _ HBw19.out).2.1.1; omega
  have x0 := (blk_cl (k := 0) X10w19.out rfl).1
  have x1 := (blk_cl (k := 1) X10w19.out rfl).1
  go_wp2_with fail
  refine (markFlow_any Aw8 n cw8 1 f _ _ _ RXw19.out HOK.out (by omega) (by omega) (by omega)).mono ?_
  rintro e w20 ⟨⟨k1, rfl, hk1, hk1b⟩, hoo⟩
  have X8w20 := Lib.hid ((hoo.block _ (heap_lt X8w19.out) (by omega)).trans X8w19.out)
  have X10w20 := Lib.hid ((hoo.block _ (heap_lt X10w19.out) (by omega)).trans X10w19.out)
  have X13w20 := Lib.hid ((hoo.block _ (heap_lt X13w19.out) (by omega)).trans X13w19.out)
  have RWw20 := Lib.hid (RWw19.out.out hoo (by omega) (by omega))
  have RYw20 := Lib.hid (RYw19.out.out hoo (by omega) (by omega))
  have RZw20 := Lib.hid (RZw19.out.out hoo (by omega) (by omega))
  have DGw20 := Lib.hid (DGw19.out.out hoo (by omega))
  have HBw20 := Lib.hid (HBw19.out.trans (hoo.below0 (by omega) (by omega)))
  have hsw20 := hoo.size
  clear X8w19 X10w19 X13w19 RWw19 RYw19 RZw19 DGw19 HBw19
  clear hoo
  clear x0 x1
  have hk1c : k1 ≤ 5000000000000 := by omega
  have hk1d : (k1 : Int) ≤ 5000000000000 := by omega
  go_wp2_with fail
  refine (markGuardS2_any Aw10 ng cw10 k1 gs _ _ _ RYw20.out hng hk1 (by omega) (by omega)).mono ?_
  rintro e w21 ⟨rfl, hoo⟩
  have X8w21 := Lib.hid ((hoo.block _ (heap_lt X8w20.out) (by omega)).trans X8w20.out)
  have X10w21 := Lib.hid ((hoo.block _ (heap_lt X10w20.out) (by omega)).trans X10w20.out)
  have X13w21 := Lib.hid ((hoo.block _ (heap_lt X13w20.out) (by omega)).trans X13w20.out)
  have RWw21 := Lib.hid (RWw20.out.out hoo (by omega) (by omega))
  have RZw21 := Lib.hid (RZw20.out.out hoo (by omega) (by omega))
  have DGw21 := Lib.hid (DGw20.out.out hoo (by omega))
  have HBw21 := Lib.hid (HBw20.out.trans (hoo.below0 (by omega) (by omega)))
  have hsw21 := hoo.size
  clear X8w20 X10w20 X13w20 RWw20 RZw20 DGw20 HBw20
  clear hoo
  obtain ⟨k2, hk2⟩ : ∃ k2, k2 = k1 + 3 * ng := ⟨_, rfl⟩
  rw [← hk2]
  have hk2c : k2 ≤ 6000000000000 := by omega
  have hk2d : 1 ≤ k2 := by omega
  clear hk2
  go_wp2_with fail
  refine (markIntS2_any Aw11 nv cw11 k2 vs _ _ _ RZw21.out hnv (by omega)).mono ?_
  rintro e w22 ⟨rfl, _, hoo⟩
  have X8w22 := Lib.hid ((hoo.block _ (heap_lt X8w21.out) (by omega)).trans X8w21.out)
  have X10w22 := Lib.hid ((hoo.block _ (heap_lt X10w21.out) (by omega)).trans X10w21.out)
  have X13w22 := Lib.hid ((hoo.block _ (heap_lt X13w21.out) (by omega)).trans X13w21.out)
  have RWw22 := Lib.hid (RWw21.out.out hoo (by omega) (by omega))
  have DGw22 := Lib.hid (DGw21.out.out hoo (by omega))
  have HBw22 := Lib.hid (HBw21.out.trans (hoo.below0 (by omega) (by omega)))
  have hsw22 := hoo.size
  clear X8w21 X10w21 X13w21 RWw21 DGw21 HBw21
  clear hoo
  obtain ⟨k3, hk3⟩ : ∃ k3, k3 = k2 + nv := ⟨_, rfl⟩
  rw [← hk3]
  have hk3c : ¬ ((k3 : Int) < 0) := by omega
  clear hk3
  have x0 := (blk_cl (k := 0) X13w22.out rfl).1
  have x1 := (blk_cl (k := 1) X13w22.out rfl).1
  have y0 := (blk_cl (k := 0) X8w22.out rfl).1
  have y1 := (blk_cl (k := 1) X8w22.out rfl).1
  go_wp2_with fail
  refine (eqFlow_same B13 B8 m13 d13 d8 (gfF f gs vs) _ _ _ DGw22.out.hat HGO.out (RWw22.out.up (by omega))).mono ?_
  rintro e w23 ⟨rfl, hbw23⟩
  have X8w23 := Lib.hid ((hbw23.block _ (heap_lt X8w22.out)).trans X8w22.out)
  have X10w23 := Lib.hid ((hbw23.block _ (heap_lt X10w22.out)).trans X10w22.out)
  have X13w23 := Lib.hid ((hbw23.block _ (heap_lt X13w22.out)).trans X13w22.out)
  have RWw23 := Lib.hid (RWw22.out.below hbw23 (by omega))
  have DGw23 := Lib.hid (DGw22.out.below hbw23)
  have HBw23 := Lib.hid (HBw22.out.trans (hbw23.mono HBw22.out.size))
  have hsw23 := hbw23.size
  clear X8w22 X10w22 X13w22 RWw22 DGw22 HBw22
  clear hbw23 x0 x1 y0 y1
  have x0 := (blk_cl (k := 0) X13w23.out rfl).1
  have x1 := (blk_cl (k := 1) X13w23.out rfl).1
  go_wp2_with fail
  refine (markFlowD_any B13 m13 d13 1 _ _ (gfF f gs vs).ver (gfF f gs vs).steps _ DGw23.out (by omega) (fun j hj => HSM.out.2 j (by rw [HL8.out]; exact hj)) (by omega) (by omega)).mono ?_
  rintro e w24 ⟨rfl, hdm, hoo⟩
  have DMw24 := Lib.hid hdm; clear hdm
  have X8w24 := Lib.hid ((hoo.block _ (heap_lt X8w23.out) (by omega)).trans X8w23.out)
  have X10w24 := Lib.hid ((hoo.block _ (heap_lt X10w23.out) (by omega)).trans X10w23.out)
  have X13w24 := Lib.hid ((hoo.block _ (heap_lt X13w23.out) (by omega)).trans X13w23.out)
  have RWw24 := Lib.hid (RWw23.out.out hoo (by omega) (by omega))
  have HBw24 := Lib.hid (HBw23.out.trans (hoo.below0 (by omega) (by omega)))
  have hsw24 := hoo.size
  clear X8w23 X10w23 X13w23 RWw23 HBw23
  clear hoo x0 x1
  obtain ⟨mm, hmm⟩ : ∃ mm, mm = mkS (nth (gfF f gs vs).steps) 1 m13 := ⟨_, rfl⟩
  have HMM := Lib.hid hmm
  rw [← hmm]
  clear hmm
  have hmp : ¬ ((mm : Int) < 0) := by omega
  have hme : ((mm : Int) != (mm : Int)) = false := by simp
  have x0 := (blk_cl (k := 0) X13w24.out rfl).1
  have x1 := (blk_cl (k := 1) X13w24.out rfl).1
  go_wp2_with fail
  refine (heldFlowD_any B13 m13 d13 1 _ _ (gfF f gs vs).ver (gfF f gs vs).steps _ DMw24.out (by omega) (fun j hj => HSM.out.2 j (by rw [HL8.out]; exact hj)) (by omega) (by omega)).mono ?_
  rintro e w25 ⟨rfl, hbh⟩
  rw [← HMM.out]
  have X8w25 := Lib.hid ((hbh.block _ (heap_lt X8w24.out)).trans X8w24.out)
  have X10w25 := Lib.hid ((hbh.block _ (heap_lt X10w24.out)).trans X10w24.out)
  have X13w25 := Lib.hid ((hbh.block _ (heap_lt X13w24.out)).trans X13w24.out)
  have RWw25 := Lib.hid (RWw24.out.below hbh (by omega))
  have DMw25 := Lib.hid (DMw24.out.below hbh)
  have HBw25 := Lib.hid (HBw24.out.trans (hbh.mono HBw24.out.size))
  have hsw25 := hbh.size
  clear X8w24 X10w24 X13w24 RWw24 DMw24 HBw24
  clear hbh x0 x1
  obtain ⟨⟨b0, b1⟩, _, _, _, _⟩ := HK.out _ HBw25.out
  go_wp2_with fail
  refine (toFlow_any _ _ _ f _ _ (HK.out _ HBw25.out).2.1 HOK.out).mono ?_
  rintro e w26 ⟨Aw26, cw26, rfl, hw26, hbw26⟩
  have RAw26 : Hid (RH stepE w26 w25.heap.size w26.heap.size Aw26 n f.steps) := Lib.hid hw26
  have X8w26 := Lib.hid ((hbw26.block _ (heap_lt X8w25.out)).trans X8w25.out)
  have X10w26 := Lib.hid ((hbw26.block _ (heap_lt X10w25.out)).trans X10w25.out)
  have X13w26 := Lib.hid ((hbw26.block _ (heap_lt X13w25.out)).trans X13w25.out)
  have RWw26 := Lib.hid (RWw25.out.below hbw26 (by omega))
  have DMw26 := Lib.hid (DMw25.out.below hbw26)
  have HBw26 := Lib.hid (HBw25.out.trans (hbw26.mono HBw25.out.size))
  have hsw26 := hbw26.size
  clear X8w25 X10w25 X13w25 RWw25 DMw25 HBw25
  clear hw26 hbw26 b0 b1
  go_wp2_with fail
  refine (toGuardS_any _ _ _ gs _ _ (HK.out _ HBw26.out).2.2.1 hng).mono ?_
  rintro e w27 ⟨Aw27, cw27, rfl, hw27, hbw27⟩
  have RGw27 : Hid (RH guardE w27 w26.heap.size w27.heap.size Aw27 ng gs) := Lib.hid hw27
  have X8w27 := Lib.hid ((hbw27.block _ (heap_lt X8w26.out)).trans X8w26.out)
  have X10w27 := Lib.hid ((hbw27.block _ (heap_lt X10w26.out)).trans X10w26.out)
  have X13w27 := Lib.hid ((hbw27.block _ (heap_lt X13w26.out)).trans X13w26.out)
  have RWw27 := Lib.hid (RWw26.out.below hbw27 (by omega))
  have RAw27 := Lib.hid (RAw26.out.below hbw27 (by omega))
  have DMw27 := Lib.hid (DMw26.out.below hbw27)
  have HBw27 := Lib.hid (HBw26.out.trans (hbw27.mono HBw26.out.size))
  have hsw27 := hbw27.size
  clear X8w26 X10w26 X13w26 RWw26 RAw26 DMw26 HBw26
  clear hw27 hbw27
  go_wp2_with fail
  refine (toIntS_any _ _ _ vs _ _ (HK.out _ HBw27.out).2.2.2.1 hnv).mono ?_
  rintro e w28 ⟨Aw28, cw28, rfl, hw28, hbw28⟩
  have RVw28 : Hid (RH intE w28 w27.heap.size w28.heap.size Aw28 nv vs) := Lib.hid hw28
  have X8w28 := Lib.hid ((hbw28.block _ (heap_lt X8w27.out)).trans X8w27.out)
  have X10w28 := Lib.hid ((hbw28.block _ (heap_lt X10w27.out)).trans X10w27.out)
  have X13w28 := Lib.hid ((hbw28.block _ (heap_lt X13w27.out)).trans X13w27.out)
  have RWw28 := Lib.hid (RWw27.out.below hbw28 (by omega))
  have RAw28 := Lib.hid (RAw27.out.below hbw28 (by omega))
  have RGw28 := Lib.hid (RGw27.out.below hbw28 (by omega))
  have DMw28 := Lib.hid (DMw27.out.below hbw28)
  have HBw28 := Lib.hid (HBw27.out.trans (hbw28.mono HBw27.out.size))
  have hsw28 := hbw28.size
  clear X8w27 X10w27 X13w27 RWw27 RAw27 RGw27 DMw27 HBw27
  clear hw28 hbw28
  go_wp2_with fail
  refine (gfI_any _ _ _ _ _ _ _ _ _ f gs vs _ _ _ _ (RAw28.out.up (by omega)) HOK.out (RGw28.out.up (by omega)) HOG.out (RVw28.out.up (Nat.le_refl _)) hnv).mono ?_
  rintro e w29 ⟨B18, m18, d18, rfl, h18, hb18⟩
  obtain rfl : m18 = m13 := by rw [← h18.len, ← HL8.out]
  have RHw29 : Hid (RH stepE w29 w28.heap.size w29.heap.size B18 m18 (gfF f gs vs).steps) := Lib.hid h18.hat2
  clear h18
  have X8w29 := Lib.hid ((hb18.block _ (heap_lt X8w28.out)).trans X8w28.out)
  have X10w29 := Lib.hid ((hb18.block _ (heap_lt X10w28.out)).trans X10w28.out)
  have X13w29 := Lib.hid ((hb18.block _ (heap_lt X13w28.out)).trans X13w28.out)
  have RWw29 := Lib.hid (RWw28.out.below hb18 (by omega))
  have DMw29 := Lib.hid (DMw28.out.below hb18)
  have HBw29 := Lib.hid (HBw28.out.trans (hb18.mono HBw28.out.size))
  have hsw29 := hb18.size
  clear X8w28 X10w28 X13w28 RWw28 DMw28 HBw28
  clear hb18
  have haw30 := (Below.refl w29.heap.size w29).alloc (Nat.le_refl _) (.cells #[.int .i64 (gfF f gs vs).ver, .slice B18 m18 d18] 34)
  have hzw30 : (w29.alloc (.cells #[.int .i64 (gfF f gs vs).ver, .slice B18 m18 d18] 34)).heap.size = w29.heap.size + 1 := by simp
  have X18w30 := Lib.hid (heap_new (w := w29) (o := .cells #[.int .i64 (gfF f gs vs).ver, .slice B18 m18 d18] 34) rfl)
  go_upto_region 38 with fail
  generalize hgw30 : w29.alloc (.cells #[.int .i64 (gfF f gs vs).ver, .slice B18 m18 d18] 34) = w30 at *
  clear hgw30
  have X8w30 := Lib.hid ((haw30.block _ (heap_lt X8w29.out)).trans X8w29.out)
  have X10w30 := Lib.hid ((haw30.block _ (heap_lt X10w29.out)).trans X10w29.out)
  have X13w30 := Lib.hid ((haw30.block _ (heap_lt X13w29.out)).trans X13w29.out)
  have RWw30 := Lib.hid (RWw29.out.below haw30 (by omega))
  have RHw30 := Lib.hid (RHw29.out.below haw30 (by omega))
  have DMw30 := Lib.hid (DMw29.out.below haw30)
  have HBw30 := Lib.hid (HBw29.out.trans (haw30.mono HBw29.out.size))
  have hsw30 := haw30.size
  clear X8w29 X10w29 X13w29 RWw29 RHw29 DMw29 HBw29
  have hzzw30 : w29.heap.size < w30.heap.size := by omega
  clear hzw30 haw30
  have x0 := (blk_cl (k := 0) X18w30.out rfl).1
  have x1 := (blk_cl (k := 1) X18w30.out rfl).1
  have y0 := (blk_cl (k := 0) X8w30.out rfl).1
  have y1 := (blk_cl (k := 1) X8w30.out rfl).1
  go_wp2_with fail
  refine (eqFlow_same B18 B8 m18 d18 d8 (gfF f gs vs) _ _ _ (RHw30.out.up (by omega)) HGO.out (RWw30.out.up (by omega))).mono ?_
  rintro e w31 ⟨rfl, hbe⟩
  have X8w31 := Lib.hid ((hbe.block _ (heap_lt X8w30.out)).trans X8w30.out)
  have X10w31 := Lib.hid ((hbe.block _ (heap_lt X10w30.out)).trans X10w30.out)
  have X13w31 := Lib.hid ((hbe.block _ (heap_lt X13w30.out)).trans X13w30.out)
  have X18w31 := Lib.hid ((hbe.block _ (heap_lt X18w30.out)).trans X18w30.out)
  have RWw31 := Lib.hid (RWw30.out.below hbe (by omega))
  have RHw31 := Lib.hid (RHw30.out.below hbe (by omega))
  have DMw31 := Lib.hid (DMw30.out.below hbe)
  have HBw31 := Lib.hid (HBw30.out.trans (hbe.mono HBw30.out.size))
  have hsw31 := hbe.size
  clear X8w30 X10w30 X13w30 X18w30 RWw30 RHw30 DMw30 HBw30
  clear hbe x0 x1 y0 y1
  have x0 := (blk_cl (k := 0) X13w31.out rfl).1
  have x1 := (blk_cl (k := 1) X13w31.out rfl).1
  go_wp2_with fail
  refine (heldFlowD_any B13 m18 d13 1 _ _ (gfF f gs vs).ver (gfF f gs vs).steps _ DMw31.out (by omega) (fun j hj => HSM.out.2 j (by rw [HL8.out]; exact hj)) (by omega) (by omega)).mono ?_
  rintro e wl ⟨rfl, hbl⟩
  rw [← HMM.out]
  have HBL := Lib.hid (HBw31.out.trans (hbl.mono HBw31.out.size))
  clear x0 x1
  go_wp2_with fail
  go_ret
  exact ⟨rfl, (HK.out _ HBL.out).2.2.2.2⟩
end Go.Proofs.Ytakeijgoonagcaa
