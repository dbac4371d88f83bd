/- Words for memory and for lists: no program in sight. -/
import Derived.WalkKit
import Derived.WalkLawsBesides
import Derived.WalkSpells
import Derived.Deep.Draws
import Derived.Lib.Hide
import Derived.Deep.QuietTactic
namespace Go.Proofs.Ytfcbpgpmafmkhaa
open Go.RowKit

abbrev Str := ByteArray

/-- A contract that leaves the world alone, or only draws, met in a quiet region. -/
theorem q_same {P : Program} {f : FuncId} {args : Array Value} {w : World} {n : Nat} {v : Value}
    (h : Calls P f args (w.drewN n) fun e w' => e = .returned v ∧ w.drewN n = w') : Calls P f args (w.drewN n) fun e w'' => e = .returned v ∧ ∃ m, w'' = w.drewN m :=
  h.mono fun _ _ ⟨he, hm⟩ => ⟨he, n, hm.symm⟩
theorem q_same2 {P : Program} {f : FuncId} {args : Array Value} {w : World} {a n : Nat} {v : Value}
    (h : Calls P f args (w.drewN (a + n)) fun e w' => e = .returned v ∧ w.drewN (a + n) = w') :
    Calls P f args (w.drewN (a + n)) fun e w'' => e = .returned v ∧ ∃ m, w'' = w.drewN (a + m) :=
  h.mono fun _ _ ⟨he, hm⟩ => ⟨he, n, hm.symm⟩
theorem q_draw {P : Program} {f : FuncId} {args : Array Value} {w : World} {n : Nat} {v : Value}
    (h : Calls P f args (w.drewN n) fun e w' => e = .returned v ∧ ∃ m, w' = (w.drewN n).drewN m) : Calls P f args (w.drewN n) fun e w'' => e = .returned v ∧ ∃ m, w'' = w.drewN m :=
  h.mono fun _ _ ⟨he, m, hm⟩ => ⟨he, n + m, by rw [hm, World.drewN_drewN]⟩
theorem q_draw2 {P : Program} {f : FuncId} {args : Array Value} {w : World} {a n : Nat} {v : Value}
    (h : Calls P f args (w.drewN (a + n)) fun e w' => e = .returned v ∧ ∃ m, w' = (w.drewN (a + n)).drewN m) :
    Calls P f args (w.drewN (a + n)) fun e w'' => e = .returned v ∧ ∃ m, w'' = w.drewN (a + m) :=
  h.mono fun _ _ ⟨he, m, hm⟩ => ⟨he, n + m, by rw [hm, World.drewN_drewN, Nat.add_assoc]⟩

/-- The list's element, behind a name that the walk does not open. -/
def nth {α : Type} [Inhabited α] (xs : List α) (k : Nat) : α := xs.getD k default

theorem nth_eq {α : Type} [Inhabited α] {xs : List α} {k : Nat} (h : k < xs.length) : nth xs k = xs[k] := by
  unfold nth; rw [List.getD_eq_getElem?_getD, List.getElem?_eq_getElem h]; rfl


theorem below_drewN {B : Nat} {a w : World} (h : Below B a w) (n : Nat) : Below B a (w.drewN n) := ⟨h.os, h.tape, h.output, h.size, h.block⟩

/-- From block 'lo' up to 'hi' all is as it was. -/
structure Same (lo hi : Nat) (w w' : World) : Prop where
  block : ∀ i, lo ≤ i → i < hi → w'.heap[i]? = w.heap[i]?
theorem Same.of_below {lo B : Nat} {w w' : World} (hb : Below B w w') : Same lo B w w' := ⟨fun i _ hi => hb.block i hi⟩

/-- A cell that may be written. -/
def Cl (w : World) (b off : Nat) (v : Value) : Prop := w.cell? ⟨b, off, none⟩ = some v ∧ w.frozen? ⟨b, off, none⟩ = false
theorem Cl.same {w w' : World} {lo hi b off : Nat} {v : Value} (h : Cl w b off v) (hs : Same lo hi w w') (h1 : lo ≤ b) (h2 : b < hi) : Cl w' b off v :=
  ⟨(World.cell?_of_block (w := w) (a := ⟨b, off, none⟩) (hs.block b h1 h2)).trans h.1, (World.frozen?_of_block (w := w) (a := ⟨b, off, none⟩) (hs.block b h1 h2)).trans h.2⟩

/-- How one element of a list lies in memory: its cells from 'off' on in block 'b'; what it leads to lies in blocks from 'lo' on, below 'hi'. -/
structure Elem (α : Type) where
  size : Nat
  rep : World → Nat → Nat → Nat → Nat → α → Prop
  keep : ∀ {w w' : World} {lo hi b off : Nat} {x : α}, rep w lo hi b off x → Same lo hi w w' → lo ≤ b → b < hi → rep w' lo hi b off x
  wide : ∀ {w : World} {lo lo' hi hi' b off : Nat} {x : α}, rep w lo hi b off x → lo' ≤ lo → hi ≤ hi' → rep w lo' hi' b off x

/-- A slice's value reads as a list, in blocks from 'lo' on, below 'hi'. -/
def RH {α : Type} [Inhabited α] (E : Elem α) (w : World) (lo hi : Nat) (A : Option Addr) (n : Nat) (xs : List α) : Prop :=
  xs.length = n ∧ (0 < n → ∃ b off, A = some ⟨b, off, none⟩ ∧ lo ≤ b ∧ b < hi ∧ ∀ k, k < n → E.rep w lo hi b (off + k * E.size) (nth xs k))
/-- A slice's value reads as a list. -/
def RL {α : Type} [Inhabited α] (E : Elem α) (w : World) (lo : Nat) (A : Option Addr) (n : Nat) (xs : List α) : Prop := RH E w lo w.heap.size A n xs

section
variable {α : Type} [Inhabited α] {E : Elem α} {w w' : World} {lo lo' hi hi' n : Nat} {A : Option Addr} {xs : List α}
theorem RH.same (h : RH E w lo hi A n xs) (hs : Same lo hi w w') : RH E w' lo hi A n xs :=
  ⟨h.1, fun hn => by
    obtain ⟨b, off, e, h1, h2, hc⟩ := h.2 hn
    exact ⟨b, off, e, h1, h2, fun k hk => E.keep (hc k hk) hs h1 h2⟩⟩
theorem RH.wide (h : RH E w lo hi A n xs) (hl : lo' ≤ lo) (hh : hi ≤ hi') : RH E w lo' hi' A n xs :=
  ⟨h.1, fun hn => by
    obtain ⟨b, off, e, h1, h2, hc⟩ := h.2 hn
    exact ⟨b, off, e, by omega, by omega, fun k hk => E.wide (hc k hk) hl hh⟩⟩
theorem RH.nil : RH E w lo hi A 0 [] := ⟨rfl, fun h => absurd h (by omega)⟩
theorem RH.take (h : RH E w lo hi A n xs) {k : Nat} (hk : k ≤ n) : RH E w lo hi A k (xs.take k) :=
  ⟨by rw [List.length_take, h.1]; omega, fun hn => by
    obtain ⟨b, off, e, h1, h2, hc⟩ := h.2 (by omega)
    refine ⟨b, off, e, h1, h2, fun j hj => ?_⟩
    have hx : nth (xs.take k) j = nth xs j := by
      unfold nth
      rw [List.getD_eq_getElem?_getD, List.getD_eq_getElem?_getD, List.getElem?_take, if_pos hj]
    rw [hx]
    exact hc j (by omega)⟩
theorem RL.len (h : RL E w lo A n xs) : xs.length = n := h.1
theorem RL.low (h : RL E w lo A n xs) : RH E w lo w.heap.size A n xs := h
theorem RH.up (h : RH E w lo hi A n xs) (hh : hi ≤ w.heap.size) : RL E w lo A n xs := h.wide (Nat.le_refl _) hh
theorem RL.below (h : RL E w lo A n xs) (hb : Below w.heap.size w w') : RL E w' lo A n xs := (h.low.same (Same.of_below hb)).up hb.size
theorem RL.alloc (h : RL E w lo A n xs) (o : Obj) : RL E (w.alloc o) lo A n xs := h.below ((Below.refl _ _).alloc (Nat.le_refl _) o)
theorem RL.drewN (h : RL E w lo A n xs) (k : Nat) : RL E (w.drewN k) lo A n xs := h.below (below_drewN (Below.refl _ _) k)
theorem RL.drew (h : RL E w lo A n xs) : RL E w.drew lo A n xs := h.below (Below.refl _ _).drew
theorem RL.lower (h : RL E w lo A n xs) (hl : lo' ≤ lo) : RL E w lo' A n xs := h.low.wide hl (Nat.le_refl _)
theorem RL.nil : RL E w lo A 0 [] := RH.nil
theorem RL.take (h : RL E w lo A n xs) {k : Nat} (hk : k ≤ n) : RL E w lo A k (xs.take k) := RH.take h hk
end

/-- Outside the blocks from 'lo' up to 'hi' all that was there is as it was. -/
structure Out (lo hi : Nat) (w w' : World) : Prop where
  os : w'.os = w.os
  tape : w'.tape = w.tape
  output : w'.output = w.output
  size : w.heap.size ≤ w'.heap.size
  block : ∀ i, i < w.heap.size → i < lo ∨ hi ≤ i → w'.heap[i]? = w.heap[i]?
section
variable {lo hi : Nat} {w w1 w' : World}
theorem Out.refl : Out lo hi w w := ⟨rfl, rfl, rfl, Nat.le_refl _, fun _ _ _ => rfl⟩
theorem Out.trans (h : Out lo hi w w1) (k : Out lo hi w1 w') : Out lo hi w w' :=
  ⟨k.os.trans h.os, k.tape.trans h.tape, k.output.trans h.output, Nat.le_trans h.size k.size, fun i h1 h2 => (k.block i (Nat.lt_of_lt_of_le h1 h.size) h2).trans (h.block i h1 h2)⟩
theorem Out.of_below (h : Below w.heap.size w w') : Out lo hi w w' := ⟨h.os, h.tape, h.output, h.size, fun i h1 _ => h.block i h1⟩
theorem Out.wide {lo' hi' : Nat} (h : Out lo hi w w') (h1 : lo' ≤ lo) (h2 : hi ≤ hi') : Out lo' hi' w w' := ⟨h.os, h.tape, h.output, h.size, fun i h3 h4 => h.block i h3 (by omega)⟩
theorem Out.below (h : Out lo hi w w') (hl : lo ≤ w.heap.size) : Below lo w w' := ⟨h.os, h.tape, h.output, h.size, fun i hi => h.block i (by omega) (.inl hi)⟩
theorem Out.set_ (h : Out lo hi w w1) {b : Nat} (h1 : lo ≤ b) (h2 : b < hi) (o : Nat) (u : Value) : Out lo hi w (w1.setCell ⟨b, o, none⟩ u) :=
  ⟨h.os, h.tape, h.output, by simpa [World.setCell] using h.size, fun i h3 h4 => (Below.heap_setCell w1 ⟨b, o, none⟩ u i (by show i ≠ b; omega)).trans (h.block i h3 h4)⟩
theorem RH.out {α : Type} [Inhabited α] {E : Elem α} {lo1 hi1 n : Nat} {A : Option Addr} {xs : List α} (h : RH E w lo1 hi1 A n xs) (ho : Out lo hi w w') (hs : hi1 ≤ w.heap.size) (hd : hi1 ≤ lo ∨ hi ≤ lo1) : RH E w' lo1 hi1 A n xs :=
  h.same ⟨fun i h1 h2 => ho.block i (by omega) (by omega)⟩
theorem RH.below {α : Type} [Inhabited α] {E : Elem α} {lo1 hi1 n B : Nat} {A : Option Addr} {xs : List α} (h : RH E w lo1 hi1 A n xs) (hb : Below B w w') (hs : hi1 ≤ B) : RH E w' lo1 hi1 A n xs :=
  h.same ⟨fun i _ h2 => hb.block i (by omega)⟩
end

def strE : Elem Str := { size := 1, rep := fun w _ _ b off x => Cl w b off (.string x), keep := fun h hs h1 h2 => h.same hs h1 h2, wide := fun h _ _ => h }
def intE : Elem Int := { size := 1, rep := fun w _ _ b off x => Cl w b off (.int .i64 x), keep := fun h hs h1 h2 => h.same hs h1 h2, wide := fun h _ _ => h }

structure Guard where
  name : Str
  var : Int
  least : Int
  deriving Inhabited
def guardE : Elem Guard :=
  { size := 3, rep := fun w _ _ b off x => Cl w b off (.string x.name) ∧ Cl w b (off + 1) (.int .i64 x.var) ∧ Cl w b (off + 2) (.int .i64 x.least),
    keep := fun h hs h1 h2 => ⟨h.1.same hs h1 h2, h.2.1.same hs h1 h2, h.2.2.same hs h1 h2⟩, wide := fun h _ _ => h }

structure Step where
  name : Str
  after : List Str
  undo : Bool
  deriving Inhabited
def stepE : Elem Step :=
  { size := 3, rep := fun w lo hi b off x => Cl w b off (.string x.name) ∧ (∃ A n c, Cl w b (off + 1) (.slice A n c) ∧ RH strE w lo hi A n x.after) ∧ Cl w b (off + 2) (.bool x.undo),
    keep := fun h hs h1 h2 => ⟨h.1.same hs h1 h2, by
      obtain ⟨A, n, c, h3, h4⟩ := h.2.1
      exact ⟨A, n, c, h3.same hs h1 h2, h4.same hs⟩, h.2.2.same hs h1 h2⟩,
    wide := fun h hl hh => ⟨h.1, by
      obtain ⟨A, n, c, h1, h2⟩ := h.2.1
      exact ⟨A, n, c, h1, h2.wide hl hh⟩, h.2.2⟩ }

abbrev RStr := RL strE
abbrev RInt := RL intE
abbrev RGuard := RL guardE
abbrev RStep := RL stepE

section
variable {w : World} {lo n : Nat} {A : Option Addr}
theorem RStr.hat {hi : Nat} {xs : List Str} {k : Nat} (h : RH strE w lo hi A n xs) (hk : k < n) :
    ∃ b off, A = some ⟨b, off, none⟩ ∧ (lo ≤ b ∧ b < hi) ∧ ∀ j, j < n → w.cell? ⟨b, off + j, none⟩ = some (.string (nth xs j)) ∧ w.frozen? ⟨b, off + j, none⟩ = false := by
  obtain ⟨b, off, e, h1, h2, hc⟩ := h.2 (by omega)
  refine ⟨b, off, e, ⟨h1, h2⟩, fun j hj => ?_⟩
  have := hc j hj
  simpa [strE, Cl] using this
theorem RStr.at_ {xs : List Str} {k : Nat} (h : RStr w lo A n xs) (hk : k < n) :
    ∃ b off, A = some ⟨b, off, none⟩ ∧ (lo ≤ b ∧ b < w.heap.size) ∧ ∀ j, j < n → w.cell? ⟨b, off + j, none⟩ = some (.string (nth xs j)) ∧ w.frozen? ⟨b, off + j, none⟩ = false := RStr.hat h hk
theorem RInt.hat {hi : Nat} {xs : List Int} {k : Nat} (h : RH intE w lo hi A n xs) (hk : k < n) :
    ∃ b off, A = some ⟨b, off, none⟩ ∧ (lo ≤ b ∧ b < hi) ∧ ∀ j, j < n → w.cell? ⟨b, off + j, none⟩ = some (.int .i64 (nth xs j)) ∧ w.frozen? ⟨b, off + j, none⟩ = false := by
  obtain ⟨b, off, e, h1, h2, hc⟩ := h.2 (by omega)
  refine ⟨b, off, e, ⟨h1, h2⟩, fun j hj => ?_⟩
  have := hc j hj
  simpa [intE, Cl] using this
theorem RInt.at_ {xs : List Int} {k : Nat} (h : RInt w lo A n xs) (hk : k < n) :
    ∃ b off, A = some ⟨b, off, none⟩ ∧ (lo ≤ b ∧ b < w.heap.size) ∧ ∀ j, j < n → w.cell? ⟨b, off + j, none⟩ = some (.int .i64 (nth xs j)) ∧ w.frozen? ⟨b, off + j, none⟩ = false := RInt.hat h hk
theorem RGuard.hat {hi : Nat} {xs : List Guard} {k : Nat} (h : RH guardE w lo hi A n xs) (hk : k < n) :
    ∃ b off, A = some ⟨b, off, none⟩ ∧ (lo ≤ b ∧ b < hi) ∧ ∀ j, j < n →
      (w.cell? ⟨b, off + j * 3, none⟩ = some (.string (nth xs j).name) ∧ w.cell? ⟨b, off + j * 3 + 1, none⟩ = some (.int .i64 (nth xs j).var) ∧ w.cell? ⟨b, off + j * 3 + 2, none⟩ = some (.int .i64 (nth xs j).least)) ∧
      (w.frozen? ⟨b, off + j * 3, none⟩ = false ∧ w.frozen? ⟨b, off + j * 3 + 1, none⟩ = false ∧ w.frozen? ⟨b, off + j * 3 + 2, none⟩ = false) := by
  obtain ⟨b, off, e, h1, h2, hc⟩ := h.2 (by omega)
  refine ⟨b, off, e, ⟨h1, h2⟩, fun j hj => ?_⟩
  obtain ⟨⟨c1, f1⟩, ⟨c2, f2⟩, c3, f3⟩ := hc j hj
  exact ⟨⟨c1, c2, c3⟩, f1, f2, f3⟩
theorem RGuard.at_ {xs : List Guard} {k : Nat} (h : RGuard w lo A n xs) (hk : k < n) :
    ∃ b off, A = some ⟨b, off, none⟩ ∧ (lo ≤ b ∧ b < w.heap.size) ∧ ∀ j, j < n →
      (w.cell? ⟨b, off + j * 3, none⟩ = some (.string (nth xs j).name) ∧ w.cell? ⟨b, off + j * 3 + 1, none⟩ = some (.int .i64 (nth xs j).var) ∧ w.cell? ⟨b, off + j * 3 + 2, none⟩ = some (.int .i64 (nth xs j).least)) ∧
      (w.frozen? ⟨b, off + j * 3, none⟩ = false ∧ w.frozen? ⟨b, off + j * 3 + 1, none⟩ = false ∧ w.frozen? ⟨b, off + j * 3 + 2, none⟩ = false) := RGuard.hat h hk
theorem RStep.hat {hi : Nat} {xs : List Step} {k : Nat} (h : RH stepE w lo hi A n xs) (hk : k < n) :
    ∃ b off, A = some ⟨b, off, none⟩ ∧ (lo ≤ b ∧ b < hi) ∧ ∀ j, j < n → ∃ A' n' c',
      (w.cell? ⟨b, off + j * 3, none⟩ = some (.string (nth xs j).name) ∧ w.cell? ⟨b, off + j * 3 + 1, none⟩ = some (.slice A' n' c') ∧ w.cell? ⟨b, off + j * 3 + 2, none⟩ = some (.bool (nth xs j).undo)) ∧
      RH strE w lo hi A' n' (nth xs j).after ∧
      (w.frozen? ⟨b, off + j * 3, none⟩ = false ∧ w.frozen? ⟨b, off + j * 3 + 1, none⟩ = false ∧ w.frozen? ⟨b, off + j * 3 + 2, none⟩ = false) := by
  obtain ⟨b, off, e, h1, h2, hc⟩ := h.2 (by omega)
  refine ⟨b, off, e, ⟨h1, h2⟩, fun j hj => ?_⟩
  obtain ⟨⟨c1, f1⟩, ⟨A', n', c', ⟨c2, f2⟩, h5⟩, c3, f3⟩ := hc j hj
  exact ⟨A', n', c', ⟨c1, c2, c3⟩, h5, f1, f2, f3⟩
theorem RStep.at_ {xs : List Step} {k : Nat} (h : RStep w lo A n xs) (hk : k < n) :
    ∃ b off, A = some ⟨b, off, none⟩ ∧ (lo ≤ b ∧ b < w.heap.size) ∧ ∀ j, j < n → ∃ A' n' c',
      (w.cell? ⟨b, off + j * 3, none⟩ = some (.string (nth xs j).name) ∧ w.cell? ⟨b, off + j * 3 + 1, none⟩ = some (.slice A' n' c') ∧ w.cell? ⟨b, off + j * 3 + 2, none⟩ = some (.bool (nth xs j).undo)) ∧
      RStr w lo A' n' (nth xs j).after ∧
      (w.frozen? ⟨b, off + j * 3, none⟩ = false ∧ w.frozen? ⟨b, off + j * 3 + 1, none⟩ = false ∧ w.frozen? ⟨b, off + j * 3 + 2, none⟩ = false) := RStep.hat h hk
end

/-! ### A row of the call's own -/
theorem own_form {w : World} {base : Nat} {e : TypeId} {size : Nat} {v : Value} {n : Nat} {cs : List Value} (h : w.ownsRow base e size v n cs) :
    ∃ A c, v = .slice A n c ∧ (0 < n → ∃ b, A = some ⟨b, 0, none⟩ ∧ base ≤ b ∧ b < w.heap.size ∧ ∀ j u, cs[j]? = some u → Cl w b j u) := by
  rcases h.2 with ⟨rfl, rfl⟩ | ⟨g, cap, cur, rfl, hb, hg, hnc, hcm, hcs, ht⟩
  · exact ⟨none, 0, rfl, fun hn => absurd hn (by omega)⟩
  · refine ⟨_, _, rfl, fun _ => ⟨g, rfl, hb, ?_, fun j u hu => ?_⟩⟩
    · rcases Nat.lt_or_ge g w.heap.size with hlt | hge
      · exact hlt
      · rw [Array.getElem?_eq_none hge] at hg; cases hg
    · constructor
      · have := h.cells (g := g) rfl j u hu
        simpa [Addr.add] using (by by_cases hj : j = 0 <;> simp_all [Addr.add])
      · simp [World.frozen?, hg]

/-- The slice that a row of the call's own reads as. -/
theorem own_str {w : World} {base : Nat} {e : TypeId} {v : Value} {n : Nat} {ys : List Str} (h : w.ownsRow base e 1 v n (ys.map Value.string)) :
    ∃ A c, v = .slice A n c ∧ RStr w base A n ys := by
  obtain ⟨A, c, hv, hf⟩ := own_form h
  have hl : ys.length = n := by have := h.1; simpa using this
  refine ⟨A, c, hv, hl, fun hn => ?_⟩
  obtain ⟨b, e1, h1, h2, hc⟩ := hf hn
  refine ⟨b, 0, e1, h1, h2, fun k hk => ?_⟩
  have := hc k (.string (nth ys k)) (by rw [List.getElem?_map, List.getElem?_eq_getElem (by omega), nth_eq (by omega)]; rfl)
  simpa [strE] using this

theorem flat_at {α β : Type} [Inhabited α] {f : α → List β} {m : Nat} (hf : ∀ x, (f x).length = m) : ∀ (xs : List α) (k i : Nat), k < xs.length → i < m → (xs.flatMap f)[k * m + i]? = (f (nth xs k))[i]?
  | [], k, i, hk, _ => absurd hk (by simp)
  | x :: xs, 0, i, _, hi => by
    have h0 : nth (x :: xs) 0 = x := rfl
    rw [h0, List.flatMap_cons, Nat.zero_mul, Nat.zero_add, List.getElem?_append_left (by rw [hf]; exact hi)]
  | x :: xs, k + 1, i, hk, hi => by
    have h0 : nth (x :: xs) (k + 1) = nth xs k := rfl
    rw [h0, List.flatMap_cons, List.getElem?_append_right (by rw [hf, Nat.succ_mul]; omega), ← flat_at hf xs k i (by simpa using hk) hi]
    congr 1
    rw [hf, Nat.succ_mul]
    omega
theorem flat_len {α β : Type} {f : α → List β} {m : Nat} (hf : ∀ x, (f x).length = m) : ∀ xs : List α, (xs.flatMap f).length = xs.length * m
  | [] => by simp
  | x :: xs => by rw [List.flatMap_cons, List.length_append, hf, flat_len hf xs, List.length_cons, Nat.succ_mul]; omega

def gcells (g : Guard) : List Value := [.string g.name, .int .i64 g.var, .int .i64 g.least]
theorem gcells_len (g : Guard) : (gcells g).length = 3 := rfl
theorem own_guard {w : World} {base : Nat} {e : TypeId} {v : Value} {n : Nat} {gs : List Guard} (h : w.ownsRow base e 3 v n (gs.flatMap gcells)) :
    ∃ A c, v = .slice A n c ∧ RGuard w base A n gs := by
  obtain ⟨A, c, hv, hf⟩ := own_form h
  have hl : gs.length = n := by have := h.1; rw [flat_len gcells_len] at this; omega
  refine ⟨A, c, hv, hl, fun hn => ?_⟩
  obtain ⟨b, e1, h1, h2, hc⟩ := hf hn
  refine ⟨b, 0, e1, h1, h2, fun k hk => ?_⟩
  have h3 : ∀ i u, i < 3 → (gcells (nth gs k))[i]? = some u → Cl w b (0 + k * 3 + i) u := fun i u hi hu => by
    have := hc (k * 3 + i) u (by rw [flat_at gcells_len gs k i (by omega) hi]; exact hu)
    rwa [Nat.zero_add]
  exact ⟨h3 0 _ (by omega) rfl, h3 1 _ (by omega) rfl, h3 2 _ (by omega) rfl⟩
theorem own_int {w : World} {base : Nat} {e : TypeId} {v : Value} {n : Nat} {ys : List Int} (h : w.ownsRow base e 1 v n (ys.map (Value.int .i64))) :
    ∃ A c, v = .slice A n c ∧ RInt w base A n ys := by
  obtain ⟨A, c, hv, hf⟩ := own_form h
  have hl : ys.length = n := by have := h.1; simpa using this
  refine ⟨A, c, hv, hl, fun hn => ?_⟩
  obtain ⟨b, e1, h1, h2, hc⟩ := hf hn
  refine ⟨b, 0, e1, h1, h2, fun k hk => ?_⟩
  have := hc k (.int .i64 (nth ys k)) (by rw [List.getElem?_map, List.getElem?_eq_getElem (by omega), nth_eq (by omega)]; rfl)
  simpa [intE] using this

theorem blk_cl {w : World} {b k : Nat} {cs : Array Value} {e : TypeId} {v : Value} (h : w.heap[b]? = some (.cells cs e (0, 0))) (hv : cs[k]? = some v) : Cl w b k v := by
  constructor
  · have : w.cell? ⟨b, k, none⟩ = cs[k]? := by unfold World.cell?; rw [h]; rfl
    rw [this, hv]
  · unfold World.frozen?; rw [h]; simp
/-- A literal list in a block of its own. -/
theorem lit_str {w : World} {e : TypeId} {cs : Array Value} (xs : List Str) (n : Nat) (h : cs.toList = xs.map Value.string) (hn : xs.length = n) : RStr (w.alloc (.cells cs e)) w.heap.size (some ⟨w.heap.size, 0, none⟩) n xs := by
  refine ⟨hn, fun _ => ⟨w.heap.size, 0, rfl, Nat.le_refl _, by simp, fun k hk => ?_⟩⟩
  have hh := heap_alloc_new w (.cells cs e)
  have : cs[k]? = some (.string (nth xs k)) := by
    rw [← Array.getElem?_toList, h, List.getElem?_map, List.getElem?_eq_getElem (by omega), nth_eq (by omega)]; rfl
  have h2 := blk_cl hh this
  simpa [strE] using h2
theorem lit_int {w : World} {e : TypeId} {cs : Array Value} (xs : List Int) (n : Nat) (h : cs.toList = xs.map (Value.int .i64)) (hn : xs.length = n) : RInt (w.alloc (.cells cs e)) w.heap.size (some ⟨w.heap.size, 0, none⟩) n xs := by
  refine ⟨hn, fun _ => ⟨w.heap.size, 0, rfl, Nat.le_refl _, by simp, fun k hk => ?_⟩⟩
  have hh := heap_alloc_new w (.cells cs e)
  have : cs[k]? = some (.int .i64 (nth xs k)) := by
    rw [← Array.getElem?_toList, h, List.getElem?_map, List.getElem?_eq_getElem (by omega), nth_eq (by omega)]; rfl
  have h2 := blk_cl hh this
  simpa [intE] using h2

structure Own (e : TypeId) (size : Nat) (w0 w : World) (v : Value) (n : Nat) (cs : List Value) : Prop where
  row : w.ownsRow w0.heap.size e size v n cs
  below : Below w0.heap.size w0 w
section
variable {e : TypeId} {size n : Nat} {w0 w w' : World} {v v' : Value} {cs cs' : List Value}
theorem Own.alloc (h : Own e size w0 w v n cs) (o : Obj) : Own e size w0 (w.alloc o) v n cs := ⟨h.row.alloc o, h.below.alloc h.below.size o⟩
theorem Own.drewN (h : Own e size w0 w v n cs) (k : Nat) : Own e size w0 (w.drewN k) v n cs := ⟨h.row, below_drewN h.below k⟩
theorem Own.next {n' : Nat} (h : Own e size w0 w v n cs) (hr : w'.ownsRow w0.heap.size e size v' n' cs') (hg : w.grownBy w' v.ownBlock) : Own e size w0 w' v' n' cs' :=
  ⟨hr, h.below.grown hg h.below.size fun k hk => (h.row.lt k hk).1⟩
theorem Own.below_ (h : Own e size w0 w v n cs) (hb : Below w.heap.size w w') : Own e size w0 w' v n cs :=
  ⟨h.row.kept (row := none) ⟨hb.os, hb.tape, hb.output, hb.size, fun k hk _ => hb.block k hk⟩ (by
    rcases h.row.2 with ⟨rfl, _⟩ | ⟨g, cap, cur, rfl, _⟩
    · left; rfl
    · right; simp [Value.ownBlock]), h.below.trans (hb.mono h.below.size)⟩
end

theorem Cl.set_same {w : World} {b o : Nat} {u v : Value} (h : Cl w b o u) : Cl (w.setCell ⟨b, o, none⟩ v) b o v := ⟨World.cell?_setCell_same w _ v h.1, by rw [World.frozen?_setCell]; exact h.2⟩
theorem Cl.set_other {w : World} {b o b' o' : Nat} {u v : Value} (h : Cl w b o u) (hne : b ≠ b' ∨ o ≠ o') : Cl (w.setCell ⟨b', o', none⟩ v) b o u :=
  ⟨(World.cell?_setCell_other w _ _ v (fun e => by injection e with e1 e2; rcases hne with h | h <;> omega)).trans h.1, by rw [World.frozen?_setCell]; exact h.2⟩
theorem nth_set {α : Type} [Inhabited α] {xs : List α} {j k : Nat} {y : α} (hj : j < xs.length) : nth (xs.set j y) k = if k = j then y else nth xs k := by
  unfold nth
  rw [List.getD_eq_getElem?_getD, List.getD_eq_getElem?_getD, List.getElem?_set]
  by_cases h : j = k
  · subst h; simp [hj]
  · rw [if_neg h, if_neg (fun e => h e.symm)]
theorem RGuard.setVar {w : World} {lo b off n j : Nat} {gs : List Guard} (h : RGuard w lo (some ⟨b, off, none⟩) n gs) (hj : j < n) (x : Int) :
    RGuard (w.setCell ⟨b, off + j * 3 + 1, none⟩ (.int .i64 x)) lo (some ⟨b, off, none⟩) n (gs.set j { nth gs j with var := x }) := by
  refine ⟨by rw [List.length_set]; exact h.1, fun hn => ?_⟩
  obtain ⟨b', off', e, h1, h2, hc⟩ := h.2 hn
  injection e with e; injection e with e1 e2
  subst e1; subst e2
  refine ⟨b, off, rfl, h1, by simpa using h2, fun k hk => ?_⟩
  obtain ⟨c1, c2, c3⟩ := hc k hk
  rw [nth_set (by rw [h.1]; exact hj)]
  by_cases hkj : k = j
  · subst hkj
    rw [if_pos rfl]
    exact ⟨c1.set_other (.inr (by show off + k * 3 ≠ _; omega)), c2.set_same, c3.set_other (.inr (by show off + k * 3 + 2 ≠ _; omega))⟩
  · rw [if_neg hkj]
    exact ⟨c1.set_other (.inr (by show off + k * 3 ≠ _; omega)), c2.set_other (.inr (by show off + k * 3 + 1 ≠ _; omega)), c3.set_other (.inr (by show off + k * 3 + 2 ≠ _; omega))⟩

theorem RInt.hset {w : World} {lo hi b off n j : Nat} {xs : List Int} (h : RH intE w lo hi (some ⟨b, off, none⟩) n xs) (hj : j < n) (x : Int) :
    RH intE (w.setCell ⟨b, off + j, none⟩ (.int .i64 x)) lo hi (some ⟨b, off, none⟩) n (xs.set j x) := by
  refine ⟨by rw [List.length_set]; exact h.1, fun hn => ?_⟩
  obtain ⟨b', off', e, h1, h2, hc⟩ := h.2 hn
  injection e with e; injection e with e1 e2
  subst e1; subst e2
  refine ⟨b, off, rfl, h1, h2, fun k hk => ?_⟩
  have c1 : Cl w b (off + k) (.int .i64 (nth xs k)) := by have := hc k hk; simpa [intE] using this
  have : Cl (w.setCell ⟨b, off + j, none⟩ (.int .i64 x)) b (off + k) (.int .i64 (nth (xs.set j x) k)) := by
    rw [nth_set (by rw [h.1]; exact hj)]
    by_cases hkj : k = j
    · subst hkj; rw [if_pos rfl]; exact c1.set_same
    · rw [if_neg hkj]; exact c1.set_other (.inr (by omega))
  simpa [intE] using this

theorem RInt.set_ {w : World} {lo b off n j : Nat} {xs : List Int} (h : RInt w lo (some ⟨b, off, none⟩) n xs) (hj : j < n) (x : Int) :
    RInt (w.setCell ⟨b, off + j, none⟩ (.int .i64 x)) lo (some ⟨b, off, none⟩) n (xs.set j x) := (RInt.hset h.low hj x).up (by simp)
theorem RStr.hset {w : World} {lo hi b off n j : Nat} {xs : List Str} (h : RH strE w lo hi (some ⟨b, off, none⟩) n xs) (hj : j < n) (x : Str) :
    RH strE (w.setCell ⟨b, off + j, none⟩ (.string x)) lo hi (some ⟨b, off, none⟩) n (xs.set j x) := by
  refine ⟨by rw [List.length_set]; exact h.1, fun hn => ?_⟩
  obtain ⟨b', off', e, h1, h2, hc⟩ := h.2 hn
  injection e with e; injection e with e1 e2
  subst e1; subst e2
  refine ⟨b, off, rfl, h1, h2, fun k hk => ?_⟩
  have c1 : Cl w b (off + k) (.string (nth xs k)) := by have := hc k hk; simpa [strE] using this
  have : Cl (w.setCell ⟨b, off + j, none⟩ (.string x)) b (off + k) (.string (nth (xs.set j x) k)) := by
    rw [nth_set (by rw [h.1]; exact hj)]
    by_cases hkj : k = j
    · subst hkj; rw [if_pos rfl]; exact c1.set_same
    · rw [if_neg hkj]; exact c1.set_other (.inr (by omega))
  simpa [strE] using this
theorem RStr.set_ {w : World} {lo b off n j : Nat} {xs : List Str} (h : RStr w lo (some ⟨b, off, none⟩) n xs) (hj : j < n) (x : Str) :
    RStr (w.setCell ⟨b, off + j, none⟩ (.string x)) lo (some ⟨b, off, none⟩) n (xs.set j x) := (RStr.hset h.low hj x).up (by simp)

/-! ### A reader of a code: a block that is written, all else stays -/
abbrev On (g : Nat) (w w' : World) : Prop := w.grownBy w' (some g)
section
variable {g : Nat} {w w1 w2 w' : World}
theorem On.refl (g : Nat) (w : World) : On g w w := World.grownBy.refl w _
theorem On.trans (h : On g w w1) (k : On g w1 w2) : On g w w2 :=
  ⟨k.os.trans h.os, k.tape.trans h.tape, k.output.trans h.output, Nat.le_trans h.size k.size, fun i hi hne => (k.block i (Nat.lt_of_lt_of_le hi h.size) hne).trans (h.block i hi hne)⟩
theorem On.alloc (h : On g w w1) (o : Obj) : On g w (w1.alloc o) := h.trans (World.grownBy_alloc w1 o _)
theorem On.drewN (h : On g w w1) (n : Nat) : On g w (w1.drewN n) := ⟨h.os, h.tape, h.output, h.size, h.block⟩
theorem On.set_ (h : On g w w1) (o : Nat) (u : Value) : On g w (w1.setCell ⟨g, o, none⟩ u) :=
  h.trans ⟨rfl, rfl, rfl, by simp [World.setCell], fun k _ hk => Below.heap_setCell _ _ _ _ (by intro e; exact hk (by rw [e]))⟩
theorem On.setNew (h : On g w w1) {b : Nat} (hb : w.heap.size ≤ b) (o : Nat) (u : Value) : On g w (w1.setCell ⟨b, o, none⟩ u) :=
  ⟨h.os, h.tape, h.output, by simpa [World.setCell] using h.size, fun i hi hne => (Below.heap_setCell w1 ⟨b, o, none⟩ u i (by intro e; simp at e; omega)).trans (h.block i hi hne)⟩
theorem On.grown {row : Option Nat} (h : On g w w1) (hg : w1.grownBy w2 row) (hr : ∀ k, row = some k → w.heap.size ≤ k) : On g w w2 :=
  ⟨hg.os.trans h.os, hg.tape.trans h.tape, hg.output.trans h.output, Nat.le_trans h.size hg.size, fun i hi hne => (hg.block i (Nat.lt_of_lt_of_le hi h.size) (by intro e; have := hr i e.symm; omega)).trans (h.block i hi hne)⟩
theorem On.of_below (h : Below w.heap.size w w1) : On g w w1 := ⟨h.os, h.tape, h.output, h.size, fun i hi _ => h.block i hi⟩
theorem On.below (h : On g w w1) : Below g w w1 ∨ w.heap.size ≤ g := by
  rcases Nat.lt_or_ge g w.heap.size with hl | hl
  · exact .inl ⟨h.os, h.tape, h.output, h.size, fun k hk => h.block k (by omega) (by intro e; injection e; omega)⟩
  · exact .inr hl
theorem On.low (h : On g w w1) (hl : g ≤ w.heap.size) : Below g w w1 := ⟨h.os, h.tape, h.output, h.size, fun k hk => h.block k (by omega) (by intro e; injection e; omega)⟩
theorem On.cell (h : On g w w1) {b o : Nat} (hb : b < w.heap.size) (hne : b ≠ g) : w1.cell? ⟨b, o, none⟩ = w.cell? ⟨b, o, none⟩ :=
  World.cell?_of_block (w := w) (h.block b hb (by intro e; injection e; omega))
theorem heap_lt {w : World} {b : Nat} {x : Obj} (h : w.heap[b]? = some x) : b < w.heap.size := by
  rcases Nat.lt_or_ge b w.heap.size with hlt | hge
  · exact hlt
  · rw [Array.getElem?_eq_none hge] at h; cases h
theorem On.blk (h : On g w w1) {b : Nat} {x : Obj} (hb : w.heap[b]? = some x) (hne : b ≠ g) : w1.heap[b]? = some x :=
  (h.block b (heap_lt hb) (by intro e; injection e with e; exact hne e)).trans hb
theorem grown_blk {row : Option Nat} (h : w.grownBy w1 row) {b : Nat} {x : Obj} (hb : w.heap[b]? = some x) (hne : row ≠ some b) : w1.heap[b]? = some x :=
  (h.block b (heap_lt hb) (Ne.symm hne)).trans hb
theorem On.frozen (h : On g w w1) {b o : Nat} (hb : b < w.heap.size) (hne : b ≠ g) : w1.frozen? ⟨b, o, none⟩ = w.frozen? ⟨b, o, none⟩ :=
  World.frozen?_of_block (w := w) (h.block b hb (by intro e; injection e; omega))
end

def Rd (T : TypeId) (w : World) (g p : Nat) : Prop :=
  ∃ A n c, n ≤ 2000 ∧ w.heap[g]? = some (.cells #[.slice A n c, .int .i64 (p : Int)] T (0, 0)) ∧
    (0 < n → ∃ b off, A = some ⟨b, off, none⟩ ∧ b < g ∧ ∀ k, k < n → ∃ u : Nat, u < 256 ∧ w.cell? ⟨b, off + k, none⟩ = some (.int .u8 (u : Int)))
theorem Rd.lt {T : TypeId} {w : World} {g p : Nat} (h : Rd T w g p) : g < w.heap.size := by
  obtain ⟨A, n, c, _, hg, _⟩ := h
  rcases Nat.lt_or_ge g w.heap.size with hlt | hge
  · exact hlt
  · rw [Array.getElem?_eq_none hge] at hg; cases hg
theorem Same.of_on {g lo : Nat} {w w' : World} (h : On g w w') (hg : g < lo) : Same lo w.heap.size w w' := ⟨fun i h1 h2 => h.block i h2 (by intro e; injection e; omega)⟩
theorem RL.on {α : Type} [Inhabited α] {E : Elem α} {w w' : World} {lo n g : Nat} {A : Option Addr} {xs : List α} (h : RL E w lo A n xs) (ho : On g w w') (hg : g < lo) : RL E w' lo A n xs := (h.low.same (Same.of_on ho hg)).up ho.size
theorem Rd.step {T : TypeId} {w : World} {g p : Nat} (h : Rd T w g p) : Rd T (w.setCell ⟨g, 1, none⟩ (.int .i64 ((p : Int) + 1))) g (p + 1) := by
  obtain ⟨A, len, c, hlen, hg, hr⟩ := h
  refine ⟨A, len, c, hlen, ?_, fun h0 => ?_⟩
  · simp only [World.setCell, Array.getElem?_modify, hg]; simp
  · obtain ⟨b, off, e, hb, hc⟩ := hr h0
    refine ⟨b, off, e, hb, fun k hk => ?_⟩
    obtain ⟨u, hu, hcu⟩ := hc k hk
    exact ⟨u, hu, (World.cell?_setCell_other w _ _ _ (fun e => by subst_vars; injection e; omega)).trans hcu⟩

/-- The reader in block g stands at q at most; but for its block all that was in w0 is as it was. -/
structure Dr (T : TypeId) (w0 : World) (g q : Nat) (w : World) : Prop where
  on : On g w0 w
  rd : ∃ p, p ≤ q ∧ Rd T w g p
theorem Dr.lt {T : TypeId} {w0 w : World} {g q : Nat} (h : Dr T w0 g q w) : g < w.heap.size := by
  obtain ⟨p, _, hr⟩ := h.rd; exact hr.lt
/-- Kept where its block and those below are kept. -/
theorem Rd.keep {T : TypeId} {w w' : World} {g p : Nat} (h : Rd T w g p) (hb : Below w.heap.size w w') : Rd T w' g p := by
  have hl := h.lt
  obtain ⟨A, n, c, hn, hg, hr⟩ := h
  refine ⟨A, n, c, hn, (hb.block g hl).trans hg, fun h0 => ?_⟩
  obtain ⟨b, off, e, hbg, hc⟩ := hr h0
  refine ⟨b, off, e, hbg, fun k hk => ?_⟩
  obtain ⟨u, hu, hcu⟩ := hc k hk
  exact ⟨u, hu, (hb.cell (p := ⟨b, off + k, none⟩) (by show b < _; omega)).trans hcu⟩

theorem Dr.below {T : TypeId} {w0 w w' : World} {g q : Nat} (h : Dr T w0 g q w) (hb : Below w.heap.size w w') : Dr T w0 g q w' := by
  obtain ⟨p, hp, hr⟩ := h.rd
  exact ⟨h.on.trans (On.of_below hb), p, hp, hr.keep hb⟩
theorem Dr.alloc {T : TypeId} {w0 w : World} {g q : Nat} (h : Dr T w0 g q w) (o : Obj) : Dr T w0 g q (w.alloc o) := h.below ((Below.refl _ _).alloc (Nat.le_refl _) o)
theorem Dr.drewN {T : TypeId} {w0 w : World} {g q : Nat} (h : Dr T w0 g q w) (k : Nat) : Dr T w0 g q (w.drewN k) := h.below (below_drewN (Below.refl _ _) k)
theorem Dr.more {T : TypeId} {w0 w : World} {g q q' : Nat} (h : Dr T w0 g q w) (hq : q ≤ q') : Dr T w0 g q' w := by
  obtain ⟨p, hp, hr⟩ := h.rd
  exact ⟨h.on, p, by omega, hr⟩
/-- A write into a block that is neither the reader's nor one below it. -/
theorem Dr.set_ {T : TypeId} {w0 w : World} {g q : Nat} (h : Dr T w0 g q w) {b : Nat} (hb : w0.heap.size ≤ b) (hg : g < b) (o : Nat) (u : Value) : Dr T w0 g q (w.setCell ⟨b, o, none⟩ u) := by
  obtain ⟨p, hp, hr⟩ := h.rd
  refine ⟨h.on.setNew hb o u, p, hp, ?_⟩
  obtain ⟨A, n, c, hn, hgg, hrr⟩ := hr
  refine ⟨A, n, c, hn, (Below.heap_setCell w ⟨b, o, none⟩ u g (by simp; omega)).trans hgg, fun h0 => ?_⟩
  obtain ⟨b', off, e, hbg, hc⟩ := hrr h0
  refine ⟨b', off, e, hbg, fun k hk => ?_⟩
  obtain ⟨u', hu, hcu⟩ := hc k hk
  exact ⟨u', hu, (World.cell?_setCell_other w _ _ _ (fun e => by injection e; omega)).trans hcu⟩
theorem Dr.grown {T : TypeId} {w0 w w' : World} {g q : Nat} {row : Option Nat} (h : Dr T w0 g q w) (hg : w.grownBy w' row) (hr : ∀ k, row = some k → w0.heap.size ≤ k ∧ g < k) : Dr T w0 g q w' := by
  obtain ⟨p, hp, hrd⟩ := h.rd
  refine ⟨h.on.grown hg (fun k hk => (hr k hk).1), p, hp, ?_⟩
  have hl := hrd.lt
  obtain ⟨A, n, c, hn, hgg, hrr⟩ := hrd
  refine ⟨A, n, c, hn, (hg.block g hl (by intro e; have := (hr g e.symm).2; omega)).trans hgg, fun h0 => ?_⟩
  obtain ⟨b', off, e, hbg, hc⟩ := hrr h0
  refine ⟨b', off, e, hbg, fun k hk => ?_⟩
  obtain ⟨u', hu, hcu⟩ := hc k hk
  exact ⟨u', hu, (World.cell?_of_block (w := w) (a := ⟨b', off + k, none⟩) (hg.block b' (by omega) (by intro e; have := (hr b' e.symm).2; omega))).trans hcu⟩

/-- A row of the call's own is kept where the reader reads. -/
theorem row_on {w w' : World} {base g : Nat} {e : TypeId} {size : Nat} {v : Value} {n : Nat} {cs : List Value} (h : w.ownsRow base e size v n cs) (ho : On g w w') (hg : g < base) : w'.ownsRow base e size v n cs :=
  h.kept ho (by
    rcases Option.eq_none_or_eq_some v.ownBlock with hn | ⟨k, hk⟩
    · exact .inl hn
    · right; rw [hk]; intro e; injection e with e; have := (h.lt k hk).1; omega)
theorem row_below {w w' : World} {base : Nat} {e : TypeId} {size : Nat} {v : Value} {n : Nat} {cs : List Value} (h : w.ownsRow base e size v n cs) (hb : Below w.heap.size w w') : w'.ownsRow base e size v n cs :=
  h.kept (row := none) ⟨hb.os, hb.tape, hb.output, hb.size, fun k hk _ => hb.block k hk⟩ (by
    rcases Option.eq_none_or_eq_some v.ownBlock with hn | ⟨k, hk⟩
    · exact .inl hn
    · right; rw [hk]; intro e; cases e)

theorem Dr.drew {T : TypeId} {w0 w : World} {g q : Nat} (h : Dr T w0 g q w) : Dr T w0 g q w.drew := h.below (Below.refl _ _).drew
theorem Dr.trans {T : TypeId} {w0 w w' : World} {g q q' : Nat} (h : Dr T w0 g q w) (k : Dr T w g q' w') : Dr T w0 g q' w' := ⟨h.on.trans k.on, k.rd⟩
theorem Dr.here {T : TypeId} {w0 w : World} {g q : Nat} (h : Dr T w0 g q w) : Dr T w g q w := ⟨On.refl g w, h.rd⟩
theorem row_ne {w : World} {base : Nat} {e t : TypeId} {size : Nat} {v : Value} {n : Nat} {cs : List Value} (h : w.ownsRow base e size v n cs) {b : Nat} {cs' : Array Value} {fr : Nat × Nat} (hb : w.heap[b]? = some (.cells cs' t fr)) (hne : e ≠ t) : v.ownBlock ≠ some b := by
  rcases h.2 with ⟨rfl, _⟩ | ⟨g, cap, cur, rfl, _, hg, _⟩
  · simp [Value.ownBlock]
  · intro he
    have e1 : g = b := by simpa [Value.ownBlock] using he
    subst e1
    rw [hg] at hb
    injection hb with hb
    injection hb with _ ht
    exact hne ht

theorem i64_xor_pos (a b : Nat) (ha : a < 9223372036854775808) (hb : b < 9223372036854775808) : 0 ≤ bits .xor .i64 (a : Int) (b : Int) ∧ bits .xor .i64 (a : Int) (b : Int) < 9223372036854775808 := by
  have ofInt : ∀ a : Nat, a < 9223372036854775808 → (BitVec.ofInt 64 (a : Int)).toNat = a := fun a ha => by
    rw [BitVec.ofInt_natCast, BitVec.toNat_ofNat]; exact Nat.mod_eq_of_lt (by omega)
  have hx : a ^^^ b < 2 ^ 63 := Nat.xor_lt_two_pow (by omega) (by omega)
  have : bits .xor .i64 (a : Int) (b : Int) = ((a ^^^ b : Nat) : Int) := by
    show IntKind.i64.wrap ((BitVec.ofInt 64 (a : Int) ^^^ BitVec.ofInt 64 (b : Int)).toNat : Int) = _
    rw [BitVec.toNat_xor, ofInt a ha, ofInt b hb, IntKind.wrap_i64]
    omega
  rw [this]
  omega

theorem heap_new {w : World} {o : Obj} {b : Nat} (h : b = w.heap.size) : (w.alloc o).heap[b]? = some o := by
  subst h; exact heap_alloc_new w o

theorem heap_old {w : World} {o x : Obj} {b : Nat} (h : w.heap[b]? = some x) : (w.alloc o).heap[b]? = some x := by
  have hb : b < w.heap.size := by
    rcases Nat.lt_or_ge b w.heap.size with hlt | hge
    · exact hlt
    · rw [Array.getElem?_eq_none hge] at h; cases h
  exact (Below.heap_alloc w o b hb).trans h
theorem take_nth {α : Type} [Inhabited α] {xs : List α} {k : Nat} (h : k < xs.length) : xs.take (k + 1) = xs.take k ++ [nth xs k] := by
  rw [List.take_succ_eq_append_getElem h, nth_eq h]

theorem fa_succ {P : Nat → Prop} {k : Nat} (h : ∀ j, j < k → P j) (hk : P k) : ∀ j, j < k + 1 → P j := fun j hj => by
  rcases Nat.lt_succ_iff_lt_or_eq.1 hj with h' | rfl
  · exact h j h'
  · exact hk
theorem fa_zero {P : Nat → Prop} : ∀ j, j < 0 → P j := fun j hj => absurd hj (by omega)

def allN (n : Nat) (p : Nat → Bool) : Bool := (List.range n).all p

theorem allN_true {n : Nat} {p : Nat → Bool} (h : ∀ j, j < n → p j = true) : allN n p = true := by
  unfold allN; rw [List.all_eq_true]; intro x hx; exact h x (List.mem_range.1 hx)
theorem allN_false {n : Nat} {p : Nat → Bool} {j : Nat} (hj : j < n) (h : p j = false) : allN n p = false := by
  cases hh : allN n p
  · rfl
  · unfold allN at hh; rw [List.all_eq_true] at hh
    have := hh j (List.mem_range.2 hj)
    rw [h] at this; cases this
theorem allN_iff {n : Nat} {p : Nat → Bool} : allN n p = true ↔ ∀ j, j < n → p j = true := by
  unfold allN; rw [List.all_eq_true]; simp [List.mem_range]


theorem ret_b {a b : Bool} (h : a = b) : Ending.returned (.bool a) = Ending.returned (.bool b) := by rw [h]
theorem ret_i {k : IntKind} {a b : Int} (h : a = b) : Ending.returned (.int k a) = Ending.returned (.int k b) := by rw [h]
theorem ret_s {a b : Str} (h : a = b) : Ending.returned (.string a) = Ending.returned (.string b) := by rw [h]
theorem seq_t {a b : Str} (h : a = b) : (a.toList == b.toList) = true := by rw [h]; simp
theorem seq_f {a b : Str} (h : a ≠ b) : (a.toList == b.toList) = false := by
  rw [beq_eq_false_iff_ne]; intro e; apply h
  have h1 : a.data.toList = b.data.toList := by simpa [ByteArray.toList_eq] using e
  cases a; cases b; simp at h1; simp [h1]
theorem eq4 (n : Nat) : ((n : Int) == 4) = decide (n = 4) := by
  rw [Bool.eq_iff_iff, beq_iff_eq, decide_eq_true_iff]; omega
theorem eqN (n m : Nat) : ((n : Int) == (m : Int)) = decide (n = m) := by
  rw [Bool.eq_iff_iff, beq_iff_eq, decide_eq_true_iff]; omega
theorem bt {b : Bool} (h : ¬ b = false) : b = true := by cases b <;> simp_all
theorem bf {b : Bool} (h : ¬ b = true) : b = false := by cases b <;> simp_all

theorem str_ext {a b : Str} : a.toList = b.toList ↔ a = b := by
  constructor
  · intro h
    have h1 : a.data.toList = b.data.toList := by simpa [ByteArray.toList_eq] using h
    cases a; cases b; simp at h1; simp [h1]
  · rintro rfl; rfl

instance strLaw : LawfulBEq ByteArray where
  eq_of_beq {a b} h := by
    have h1 : (a.data == b.data) = true := h
    have h2 : a.data = b.data := by simpa using h1
    cases a; cases b; simp_all
  rfl {a} := by
    have : (a == a) = (a.data == a.data) := rfl
    rw [this]; simp

def lowB (c : UInt8) : Bool := decide (97 ≤ (c.toNat : Int)) && decide ((c.toNat : Int) ≤ 122)
/-- A valid name. -/
def nameB (s : Str) : Bool := decide (1 ≤ (s.size : Int)) && decide ((s.size : Int) ≤ 5) && s.data.toList.all lowB
def strLt (a b : Str) : Bool := Op.bytesLess a.toList b.toList
theorem bl_irr : ∀ x : List UInt8, Op.bytesLess x x = false
  | [] => rfl
  | a :: x => by simp [Op.bytesLess, bl_irr x]
theorem bl_tri : ∀ x y : List UInt8, Op.bytesLess x y = true ∨ x = y ∨ Op.bytesLess y x = true
  | [], [] => .inr (.inl rfl)
  | [], _ :: _ => .inl rfl
  | _ :: _, [] => .inr (.inr rfl)
  | a :: x, b :: y => by
    simp only [Op.bytesLess, Bool.or_eq_true, decide_eq_true_eq, Bool.and_eq_true, beq_iff_eq, UInt8.lt_iff_toNat_lt]
    rcases Nat.lt_trichotomy a.toNat b.toNat with h | h | h
    · exact .inl (.inl h)
    · have e := UInt8.toNat_inj.1 h
      subst e
      rcases bl_tri x y with h' | rfl | h'
      · exact .inl (.inr ⟨rfl, h'⟩)
      · exact .inr (.inl rfl)
      · exact .inr (.inr (.inr ⟨rfl, h'⟩))
    · exact .inr (.inr (.inl h))
theorem bl_trans : ∀ x y z : List UInt8, Op.bytesLess x y = true → Op.bytesLess y z = true → Op.bytesLess x z = true
  | _, [], _, h, _ => by cases ‹List UInt8› <;> simp [Op.bytesLess] at h
  | _, _ :: _, [], _, h => by simp [Op.bytesLess] at h
  | [], _ :: _, _ :: _, _, _ => rfl
  | a :: x, b :: y, c :: z, h1, h2 => by
    simp only [Op.bytesLess, Bool.or_eq_true, decide_eq_true_eq, Bool.and_eq_true, beq_iff_eq, UInt8.lt_iff_toNat_lt] at h1 h2 ⊢
    rcases h1 with h1 | ⟨rfl, h1⟩
    · rcases h2 with h2 | ⟨rfl, h2⟩
      · left; omega
      · left; exact h1
    · rcases h2 with h2 | ⟨rfl, h2⟩
      · left; exact h2
      · right; exact ⟨rfl, bl_trans x y z h1 h2⟩
theorem strLt_irr (a : Str) : strLt a a = false := bl_irr _
theorem strLt_trans {a b c : Str} (h1 : strLt a b = true) (h2 : strLt b c = true) : strLt a c = true := bl_trans _ _ _ h1 h2
theorem strLt_tri (a b : Str) : strLt a b = true ∨ a = b ∨ strLt b a = true := by
  rcases bl_tri a.toList b.toList with h | h | h
  · exact .inl h
  · exact .inr (.inl (str_ext.1 h))
  · exact .inr (.inr h)
theorem strLt_asymm {a b : Str} (h : strLt a b = true) : strLt b a = false := by
  cases h' : strLt b a
  · rfl
  · have := strLt_trans h h'; rw [strLt_irr] at this; cases this
theorem strLt_ne {a b : Str} (h : strLt a b = true) : a ≠ b := by rintro rfl; rw [strLt_irr] at h; cases h
/-- '<=' the other way round. -/
theorem str_le (a b : Str) : (Op.bytesLess b.toList a.toList || b.toList == a.toList) = !(strLt a b) := by
  rcases strLt_tri a b with h | h | h
  · have h1 := strLt_asymm h
    have h2 : (b.toList == a.toList) = false := seq_f (Ne.symm (strLt_ne h))
    rw [h, h2]; unfold strLt at h1; rw [h1]; rfl
  · subst h; rw [strLt_irr]; simp
  · have h1 := strLt_asymm h
    rw [h1]; unfold strLt at h; rw [h]; rfl
def inB (n lo hi : Int) : Bool := decide (lo ≤ n) && decide (n ≤ hi)

/-- The place of a name, or -1. -/
def idxI (xs : List Str) (s : Str) : Int := if s ∈ xs then (xs.findIdx (· = s) : Nat) else -1
def hasB (xs : List Str) (s : Str) : Bool := decide (s ∈ xs)

theorem mem_nth {α : Type} [Inhabited α] {xs : List α} {k : Nat} (h : k < xs.length) : nth xs k ∈ xs := by rw [nth_eq h]; exact List.getElem_mem h
theorem nth_of_mem {α : Type} [Inhabited α] {xs : List α} {x : α} (h : x ∈ xs) : ∃ k, k < xs.length ∧ nth xs k = x := by
  obtain ⟨k, hk, he⟩ := List.getElem_of_mem h
  exact ⟨k, hk, by rw [nth_eq hk]; exact he⟩

theorem idxI_at {xs : List Str} {s : Str} {k : Nat} (hp : ∀ j, j < k → nth xs j ≠ s) (hk : k < xs.length) (he : nth xs k = s) : idxI xs s = k := by
  have hm : s ∈ xs := he ▸ mem_nth hk
  unfold idxI; rw [if_pos hm]
  have : xs.findIdx (· = s) = k := by
    rw [List.findIdx_eq hk]
    refine ⟨by rw [nth_eq hk] at he; simpa using he, fun j hj => ?_⟩
    have := hp j hj
    rw [nth_eq (by omega)] at this
    simpa using this
  rw [this]
theorem idxI_none {xs : List Str} {s : Str} (hp : ∀ j, j < xs.length → nth xs j ≠ s) : idxI xs s = -1 := by
  unfold idxI; rw [if_neg]
  intro hm
  obtain ⟨k, hk, he⟩ := nth_of_mem hm
  exact hp k hk he
theorem idxI_nonneg {xs : List Str} {s : Str} : 0 ≤ idxI xs s ↔ s ∈ xs := by
  unfold idxI; split <;> simp_all
theorem idxI_lo (xs : List Str) (s : Str) : -1 ≤ idxI xs s := by unfold idxI; split <;> omega
theorem idxI_hi (xs : List Str) (s : Str) : idxI xs s < xs.length ∨ idxI xs s = -1 := by
  unfold idxI; split
  · rename_i h
    left
    have : xs.findIdx (· = s) < xs.length := List.findIdx_lt_length_of_exists ⟨s, h, by simp⟩
    omega
  · right; rfl
theorem hasB_true {xs : List Str} {s : Str} : hasB xs s = true ↔ s ∈ xs := by simp [hasB]
theorem hasB_false {xs : List Str} {s : Str} : hasB xs s = false ↔ s ∉ xs := by simp [hasB]
theorem hasB_idx (xs : List Str) (s : Str) : decide (0 ≤ idxI xs s) = hasB xs s := by
  unfold hasB; rw [decide_eq_decide]; exact idxI_nonneg
theorem idx_neg {xs : List Str} {s : Str} (h : hasB xs s = false) : idxI xs s < 0 := by
  rw [← hasB_idx] at h; simp at h; omega
theorem idx_pos {xs : List Str} {s : Str} (h : hasB xs s = true) : 0 ≤ idxI xs s := by
  rw [← hasB_idx] at h; simpa using h

/-- All names of a list are in another one. -/
def haveB (xs ys : List Str) : Bool := allN ys.length fun j => hasB xs (nth ys j)
/-- Names are valid and ascend. -/
def ascAt (xs : List Str) (j : Nat) : Bool := nameB (nth xs j) && (decide (j = 0) || strLt (nth xs (j - 1)) (nth xs j))
def ascB (xs : List Str) : Bool := allN xs.length (ascAt xs)
theorem haveB_iff {xs ys : List Str} : haveB xs ys = true ↔ ∀ y ∈ ys, y ∈ xs := by
  unfold haveB; rw [allN_iff]
  constructor
  · intro h y hy
    obtain ⟨k, hk, rfl⟩ := nth_of_mem hy
    exact hasB_true.1 (h k hk)
  · intro h j hj
    exact hasB_true.2 (h _ (mem_nth hj))

theorem list_ext {α : Type} [Inhabited α] {xs ys : List α} (hl : xs.length = ys.length) (h : ∀ j, j < xs.length → nth xs j = nth ys j) : xs = ys := by
  refine List.ext_getElem hl fun j h1 h2 => ?_
  have := h j h1
  rwa [nth_eq h1, nth_eq h2] at this
def eqB (xs ys : List Str) : Bool := decide (xs = ys)
theorem eqB_len {xs ys : List Str} (h : xs.length ≠ ys.length) : eqB xs ys = false := by
  unfold eqB; simp; rintro rfl; exact h rfl
theorem eqB_at {xs ys : List Str} {j : Nat} (h : nth xs j ≠ nth ys j) : eqB xs ys = false := by
  unfold eqB; simp; rintro rfl; exact h rfl
theorem eqB_all {xs ys : List Str} (hl : xs.length = ys.length) (h : ∀ j, j < xs.length → nth xs j = nth ys j) : eqB xs ys = true := by
  unfold eqB; simpa using list_ext hl h

def guardB (xs : List Guard) (j : Nat) : Bool :=
  nameB (nth xs j).name && inB (nth xs j).var 0 3 && inB (nth xs j).least 0 99 && (decide (j = 0) || strLt (nth xs (j - 1)).name (nth xs j).name)
def guardsB (xs : List Guard) : Bool := allN xs.length (guardB xs) && decide ((xs.length : Int) ≤ 8)
end Go.Proofs.Ytfcbpgpmafmkhaa
