/- Contracts of functions and plain lemmas, joined. No condition but those that each states. -/
import Derived.WalkKit
import Derived.WalkLawsBesides
import Derived.WalkSpells
import Derived.Deep.Draws
import Derived.Lib.Hide
import Derived.Deep.QuietTactic
import Derived.Test.YthdfefgianokgaaDoorRows
import Derived.Maps.AppendAt
import Derived.BigQuiet
import Derived.Outline
import Derived.Deep.RegionHeld3
import Derived.Deep.DeepCutAuto
import Derived.Test.YthdfefgianokgaaDoorShelf
import Derived.Lib.Join

/- Words for memory and for lists: no program in sight. -/
namespace Go.Proofs.YthdfefgianokgaaDoor
open Go.RowKit

abbrev Str := ByteArray

/-- A contract that leaves the world alone, or only draws, met in a quiet region. -/
theorem q_same {P : Program} {f : FuncId} {args : Array Value} {w : World} {n : Nat} {v : Value}
    (h : Calls P f args (w.drewN n) fun e w' => e = .returned v ∧ w.drewN n = w') : Calls P f args (w.drewN n) fun e w'' => e = .returned v ∧ ∃ m, w'' = w.drewN m :=
  h.mono fun _ _ ⟨he, hm⟩ => ⟨he, n, hm.symm⟩
theorem q_same2 {P : Program} {f : FuncId} {args : Array Value} {w : World} {a n : Nat} {v : Value}
    (h : Calls P f args (w.drewN (a + n)) fun e w' => e = .returned v ∧ w.drewN (a + n) = w') :
    Calls P f args (w.drewN (a + n)) fun e w'' => e = .returned v ∧ ∃ m, w'' = w.drewN (a + m) :=
  h.mono fun _ _ ⟨he, hm⟩ => ⟨he, n, hm.symm⟩
theorem q_draw {P : Program} {f : FuncId} {args : Array Value} {w : World} {n : Nat} {v : Value}
    (h : Calls P f args (w.drewN n) fun e w' => e = .returned v ∧ ∃ m, w' = (w.drewN n).drewN m) : Calls P f args (w.drewN n) fun e w'' => e = .returned v ∧ ∃ m, w'' = w.drewN m :=
  h.mono fun _ _ ⟨he, m, hm⟩ => ⟨he, n + m, by rw [hm, World.drewN_drewN]⟩
theorem q_draw2 {P : Program} {f : FuncId} {args : Array Value} {w : World} {a n : Nat} {v : Value}
    (h : Calls P f args (w.drewN (a + n)) fun e w' => e = .returned v ∧ ∃ m, w' = (w.drewN (a + n)).drewN m) :
    Calls P f args (w.drewN (a + n)) fun e w'' => e = .returned v ∧ ∃ m, w'' = w.drewN (a + m) :=
  h.mono fun _ _ ⟨he, m, hm⟩ => ⟨he, n + m, by rw [hm, World.drewN_drewN, Nat.add_assoc]⟩

/-- The list's element, behind a name that the walk does not open. -/
def nth {α : Type} [Inhabited α] (xs : List α) (k : Nat) : α := xs.getD k default

theorem nth_eq {α : Type} [Inhabited α] {xs : List α} {k : Nat} (h : k < xs.length) : nth xs k = xs[k] := by
  unfold nth; rw [List.getD_eq_getElem?_getD, List.getElem?_eq_getElem h]; rfl


theorem below_drewN {B : Nat} {a w : World} (h : Below B a w) (n : Nat) : Below B a (w.drewN n) := ⟨h.os, h.tape, h.output, h.size, h.block⟩

/-- From block 'lo' up to 'hi' all is as it was. -/
structure Same (lo hi : Nat) (w w' : World) : Prop where
  block : ∀ i, lo ≤ i → i < hi → w'.heap[i]? = w.heap[i]?
theorem Same.of_below {lo B : Nat} {w w' : World} (hb : Below B w w') : Same lo B w w' := ⟨fun i _ hi => hb.block i hi⟩

/-- A cell that may be written. -/
def Cl (w : World) (b off : Nat) (v : Value) : Prop := w.cell? ⟨b, off, none⟩ = some v ∧ w.frozen? ⟨b, off, none⟩ = false
theorem Cl.same {w w' : World} {lo hi b off : Nat} {v : Value} (h : Cl w b off v) (hs : Same lo hi w w') (h1 : lo ≤ b) (h2 : b < hi) : Cl w' b off v :=
  ⟨(World.cell?_of_block (w := w) (a := ⟨b, off, none⟩) (hs.block b h1 h2)).trans h.1, (World.frozen?_of_block (w := w) (a := ⟨b, off, none⟩) (hs.block b h1 h2)).trans h.2⟩

/-- How one element of a list lies in memory: its cells from 'off' on in block 'b'; what it leads to lies in blocks from 'lo' on, below 'hi'. -/
structure Elem (α : Type) where
  size : Nat
  rep : World → Nat → Nat → Nat → Nat → α → Prop
  keep : ∀ {w w' : World} {lo hi b off : Nat} {x : α}, rep w lo hi b off x → Same lo hi w w' → lo ≤ b → b < hi → rep w' lo hi b off x
  wide : ∀ {w : World} {lo lo' hi hi' b off : Nat} {x : α}, rep w lo hi b off x → lo' ≤ lo → hi ≤ hi' → rep w lo' hi' b off x

/-- A slice's value reads as a list, in blocks from 'lo' on, below 'hi'. -/
def RH {α : Type} [Inhabited α] (E : Elem α) (w : World) (lo hi : Nat) (A : Option Addr) (n : Nat) (xs : List α) : Prop :=
  xs.length = n ∧ (0 < n → ∃ b off, A = some ⟨b, off, none⟩ ∧ lo ≤ b ∧ b < hi ∧ ∀ k, k < n → E.rep w lo hi b (off + k * E.size) (nth xs k))
/-- A slice's value reads as a list. -/
def RL {α : Type} [Inhabited α] (E : Elem α) (w : World) (lo : Nat) (A : Option Addr) (n : Nat) (xs : List α) : Prop := RH E w lo w.heap.size A n xs

section
variable {α : Type} [Inhabited α] {E : Elem α} {w w' : World} {lo lo' hi hi' n : Nat} {A : Option Addr} {xs : List α}
theorem RH.same (h : RH E w lo hi A n xs) (hs : Same lo hi w w') : RH E w' lo hi A n xs :=
  ⟨h.1, fun hn => by
    obtain ⟨b, off, e, h1, h2, hc⟩ := h.2 hn
    exact ⟨b, off, e, h1, h2, fun k hk => E.keep (hc k hk) hs h1 h2⟩⟩
theorem RH.wide (h : RH E w lo hi A n xs) (hl : lo' ≤ lo) (hh : hi ≤ hi') : RH E w lo' hi' A n xs :=
  ⟨h.1, fun hn => by
    obtain ⟨b, off, e, h1, h2, hc⟩ := h.2 hn
    exact ⟨b, off, e, by omega, by omega, fun k hk => E.wide (hc k hk) hl hh⟩⟩
theorem RH.nil : RH E w lo hi A 0 [] := ⟨rfl, fun h => absurd h (by omega)⟩
theorem RH.take (h : RH E w lo hi A n xs) {k : Nat} (hk : k ≤ n) : RH E w lo hi A k (xs.take k) :=
  ⟨by rw [List.length_take, h.1]; omega, fun hn => by
    obtain ⟨b, off, e, h1, h2, hc⟩ := h.2 (by omega)
    refine ⟨b, off, e, h1, h2, fun j hj => ?_⟩
    have hx : nth (xs.take k) j = nth xs j := by
      unfold nth
      rw [List.getD_eq_getElem?_getD, List.getD_eq_getElem?_getD, List.getElem?_take, if_pos hj]
    rw [hx]
    exact hc j (by omega)⟩
theorem RL.len (h : RL E w lo A n xs) : xs.length = n := h.1
theorem RL.low (h : RL E w lo A n xs) : RH E w lo w.heap.size A n xs := h
theorem RH.up (h : RH E w lo hi A n xs) (hh : hi ≤ w.heap.size) : RL E w lo A n xs := h.wide (Nat.le_refl _) hh
theorem RL.below (h : RL E w lo A n xs) (hb : Below w.heap.size w w') : RL E w' lo A n xs := (h.low.same (Same.of_below hb)).up hb.size
theorem RL.alloc (h : RL E w lo A n xs) (o : Obj) : RL E (w.alloc o) lo A n xs := h.below ((Below.refl _ _).alloc (Nat.le_refl _) o)
theorem RL.drewN (h : RL E w lo A n xs) (k : Nat) : RL E (w.drewN k) lo A n xs := h.below (below_drewN (Below.refl _ _) k)
theorem RL.drew (h : RL E w lo A n xs) : RL E w.drew lo A n xs := h.below (Below.refl _ _).drew
theorem RL.lower (h : RL E w lo A n xs) (hl : lo' ≤ lo) : RL E w lo' A n xs := h.low.wide hl (Nat.le_refl _)
theorem RL.nil : RL E w lo A 0 [] := RH.nil
theorem RL.take (h : RL E w lo A n xs) {k : Nat} (hk : k ≤ n) : RL E w lo A k (xs.take k) := RH.take h hk
end

/-- Outside the blocks from 'lo' up to 'hi' all that was there is as it was. -/
structure Out (lo hi : Nat) (w w' : World) : Prop where
  os : w'.os = w.os
  tape : w'.tape = w.tape
  output : w'.output = w.output
  size : w.heap.size ≤ w'.heap.size
  block : ∀ i, i < w.heap.size → i < lo ∨ hi ≤ i → w'.heap[i]? = w.heap[i]?
section
variable {lo hi : Nat} {w w1 w' : World}
theorem Out.refl : Out lo hi w w := ⟨rfl, rfl, rfl, Nat.le_refl _, fun _ _ _ => rfl⟩
theorem Out.trans (h : Out lo hi w w1) (k : Out lo hi w1 w') : Out lo hi w w' :=
  ⟨k.os.trans h.os, k.tape.trans h.tape, k.output.trans h.output, Nat.le_trans h.size k.size, fun i h1 h2 => (k.block i (Nat.lt_of_lt_of_le h1 h.size) h2).trans (h.block i h1 h2)⟩
theorem Out.of_below (h : Below w.heap.size w w') : Out lo hi w w' := ⟨h.os, h.tape, h.output, h.size, fun i h1 _ => h.block i h1⟩
theorem Out.wide {lo' hi' : Nat} (h : Out lo hi w w') (h1 : lo' ≤ lo) (h2 : hi ≤ hi') : Out lo' hi' w w' := ⟨h.os, h.tape, h.output, h.size, fun i h3 h4 => h.block i h3 (by omega)⟩
theorem Out.below (h : Out lo hi w w') (hl : lo ≤ w.heap.size) : Below lo w w' := ⟨h.os, h.tape, h.output, h.size, fun i hi => h.block i (by omega) (.inl hi)⟩
theorem Out.set_ (h : Out lo hi w w1) {b : Nat} (h1 : lo ≤ b) (h2 : b < hi) (o : Nat) (u : Value) : Out lo hi w (w1.setCell ⟨b, o, none⟩ u) :=
  ⟨h.os, h.tape, h.output, by simpa [World.setCell] using h.size, fun i h3 h4 => (Below.heap_setCell w1 ⟨b, o, none⟩ u i (by show i ≠ b; omega)).trans (h.block i h3 h4)⟩
theorem RH.out {α : Type} [Inhabited α] {E : Elem α} {lo1 hi1 n : Nat} {A : Option Addr} {xs : List α} (h : RH E w lo1 hi1 A n xs) (ho : Out lo hi w w') (hs : hi1 ≤ w.heap.size) (hd : hi1 ≤ lo ∨ hi ≤ lo1) : RH E w' lo1 hi1 A n xs :=
  h.same ⟨fun i h1 h2 => ho.block i (by omega) (by omega)⟩
theorem RH.below {α : Type} [Inhabited α] {E : Elem α} {lo1 hi1 n B : Nat} {A : Option Addr} {xs : List α} (h : RH E w lo1 hi1 A n xs) (hb : Below B w w') (hs : hi1 ≤ B) : RH E w' lo1 hi1 A n xs :=
  h.same ⟨fun i _ h2 => hb.block i (by omega)⟩
end

def strE : Elem Str := { size := 1, rep := fun w _ _ b off x => Cl w b off (.string x), keep := fun h hs h1 h2 => h.same hs h1 h2, wide := fun h _ _ => h }
def intE : Elem Int := { size := 1, rep := fun w _ _ b off x => Cl w b off (.int .i64 x), keep := fun h hs h1 h2 => h.same hs h1 h2, wide := fun h _ _ => h }

structure Guard where
  name : Str
  var : Int
  least : Int
  deriving Inhabited
def guardE : Elem Guard :=
  { size := 3, rep := fun w _ _ b off x => Cl w b off (.string x.name) ∧ Cl w b (off + 1) (.int .i64 x.var) ∧ Cl w b (off + 2) (.int .i64 x.least),
    keep := fun h hs h1 h2 => ⟨h.1.same hs h1 h2, h.2.1.same hs h1 h2, h.2.2.same hs h1 h2⟩, wide := fun h _ _ => h }

structure Step where
  name : Str
  after : List Str
  undo : Bool
  deriving Inhabited
def stepE : Elem Step :=
  { size := 3, rep := fun w lo hi b off x => Cl w b off (.string x.name) ∧ (∃ A n c, Cl w b (off + 1) (.slice A n c) ∧ RH strE w lo hi A n x.after) ∧ Cl w b (off + 2) (.bool x.undo),
    keep := fun h hs h1 h2 => ⟨h.1.same hs h1 h2, by
      obtain ⟨A, n, c, h3, h4⟩ := h.2.1
      exact ⟨A, n, c, h3.same hs h1 h2, h4.same hs⟩, h.2.2.same hs h1 h2⟩,
    wide := fun h hl hh => ⟨h.1, by
      obtain ⟨A, n, c, h1, h2⟩ := h.2.1
      exact ⟨A, n, c, h1, h2.wide hl hh⟩, h.2.2⟩ }

abbrev RStr := RL strE
abbrev RInt := RL intE
abbrev RGuard := RL guardE
abbrev RStep := RL stepE

section
variable {w : World} {lo n : Nat} {A : Option Addr}
theorem RStr.hat {hi : Nat} {xs : List Str} {k : Nat} (h : RH strE w lo hi A n xs) (hk : k < n) :
    ∃ b off, A = some ⟨b, off, none⟩ ∧ (lo ≤ b ∧ b < hi) ∧ ∀ j, j < n → w.cell? ⟨b, off + j, none⟩ = some (.string (nth xs j)) ∧ w.frozen? ⟨b, off + j, none⟩ = false := by
  obtain ⟨b, off, e, h1, h2, hc⟩ := h.2 (by omega)
  refine ⟨b, off, e, ⟨h1, h2⟩, fun j hj => ?_⟩
  have := hc j hj
  simpa [strE, Cl] using this
theorem RStr.at_ {xs : List Str} {k : Nat} (h : RStr w lo A n xs) (hk : k < n) :
    ∃ b off, A = some ⟨b, off, none⟩ ∧ (lo ≤ b ∧ b < w.heap.size) ∧ ∀ j, j < n → w.cell? ⟨b, off + j, none⟩ = some (.string (nth xs j)) ∧ w.frozen? ⟨b, off + j, none⟩ = false := RStr.hat h hk
theorem RInt.hat {hi : Nat} {xs : List Int} {k : Nat} (h : RH intE w lo hi A n xs) (hk : k < n) :
    ∃ b off, A = some ⟨b, off, none⟩ ∧ (lo ≤ b ∧ b < hi) ∧ ∀ j, j < n → w.cell? ⟨b, off + j, none⟩ = some (.int .i64 (nth xs j)) ∧ w.frozen? ⟨b, off + j, none⟩ = false := by
  obtain ⟨b, off, e, h1, h2, hc⟩ := h.2 (by omega)
  refine ⟨b, off, e, ⟨h1, h2⟩, fun j hj => ?_⟩
  have := hc j hj
  simpa [intE, Cl] using this
theorem RInt.at_ {xs : List Int} {k : Nat} (h : RInt w lo A n xs) (hk : k < n) :
    ∃ b off, A = some ⟨b, off, none⟩ ∧ (lo ≤ b ∧ b < w.heap.size) ∧ ∀ j, j < n → w.cell? ⟨b, off + j, none⟩ = some (.int .i64 (nth xs j)) ∧ w.frozen? ⟨b, off + j, none⟩ = false := RInt.hat h hk
theorem RGuard.hat {hi : Nat} {xs : List Guard} {k : Nat} (h : RH guardE w lo hi A n xs) (hk : k < n) :
    ∃ b off, A = some ⟨b, off, none⟩ ∧ (lo ≤ b ∧ b < hi) ∧ ∀ j, j < n →
      (w.cell? ⟨b, off + j * 3, none⟩ = some (.string (nth xs j).name) ∧ w.cell? ⟨b, off + j * 3 + 1, none⟩ = some (.int .i64 (nth xs j).var) ∧ w.cell? ⟨b, off + j * 3 + 2, none⟩ = some (.int .i64 (nth xs j).least)) ∧
      (w.frozen? ⟨b, off + j * 3, none⟩ = false ∧ w.frozen? ⟨b, off + j * 3 + 1, none⟩ = false ∧ w.frozen? ⟨b, off + j * 3 + 2, none⟩ = false) := by
  obtain ⟨b, off, e, h1, h2, hc⟩ := h.2 (by omega)
  refine ⟨b, off, e, ⟨h1, h2⟩, fun j hj => ?_⟩
  obtain ⟨⟨c1, f1⟩, ⟨c2, f2⟩, c3, f3⟩ := hc j hj
  exact ⟨⟨c1, c2, c3⟩, f1, f2, f3⟩
theorem RGuard.at_ {xs : List Guard} {k : Nat} (h : RGuard w lo A n xs) (hk : k < n) :
    ∃ b off, A = some ⟨b, off, none⟩ ∧ (lo ≤ b ∧ b < w.heap.size) ∧ ∀ j, j < n →
      (w.cell? ⟨b, off + j * 3, none⟩ = some (.string (nth xs j).name) ∧ w.cell? ⟨b, off + j * 3 + 1, none⟩ = some (.int .i64 (nth xs j).var) ∧ w.cell? ⟨b, off + j * 3 + 2, none⟩ = some (.int .i64 (nth xs j).least)) ∧
      (w.frozen? ⟨b, off + j * 3, none⟩ = false ∧ w.frozen? ⟨b, off + j * 3 + 1, none⟩ = false ∧ w.frozen? ⟨b, off + j * 3 + 2, none⟩ = false) := RGuard.hat h hk
theorem RStep.hat {hi : Nat} {xs : List Step} {k : Nat} (h : RH stepE w lo hi A n xs) (hk : k < n) :
    ∃ b off, A = some ⟨b, off, none⟩ ∧ (lo ≤ b ∧ b < hi) ∧ ∀ j, j < n → ∃ A' n' c',
      (w.cell? ⟨b, off + j * 3, none⟩ = some (.string (nth xs j).name) ∧ w.cell? ⟨b, off + j * 3 + 1, none⟩ = some (.slice A' n' c') ∧ w.cell? ⟨b, off + j * 3 + 2, none⟩ = some (.bool (nth xs j).undo)) ∧
      RH strE w lo hi A' n' (nth xs j).after ∧
      (w.frozen? ⟨b, off + j * 3, none⟩ = false ∧ w.frozen? ⟨b, off + j * 3 + 1, none⟩ = false ∧ w.frozen? ⟨b, off + j * 3 + 2, none⟩ = false) := by
  obtain ⟨b, off, e, h1, h2, hc⟩ := h.2 (by omega)
  refine ⟨b, off, e, ⟨h1, h2⟩, fun j hj => ?_⟩
  obtain ⟨⟨c1, f1⟩, ⟨A', n', c', ⟨c2, f2⟩, h5⟩, c3, f3⟩ := hc j hj
  exact ⟨A', n', c', ⟨c1, c2, c3⟩, h5, f1, f2, f3⟩
theorem RStep.at_ {xs : List Step} {k : Nat} (h : RStep w lo A n xs) (hk : k < n) :
    ∃ b off, A = some ⟨b, off, none⟩ ∧ (lo ≤ b ∧ b < w.heap.size) ∧ ∀ j, j < n → ∃ A' n' c',
      (w.cell? ⟨b, off + j * 3, none⟩ = some (.string (nth xs j).name) ∧ w.cell? ⟨b, off + j * 3 + 1, none⟩ = some (.slice A' n' c') ∧ w.cell? ⟨b, off + j * 3 + 2, none⟩ = some (.bool (nth xs j).undo)) ∧
      RStr w lo A' n' (nth xs j).after ∧
      (w.frozen? ⟨b, off + j * 3, none⟩ = false ∧ w.frozen? ⟨b, off + j * 3 + 1, none⟩ = false ∧ w.frozen? ⟨b, off + j * 3 + 2, none⟩ = false) := RStep.hat h hk
end

/-! ### A row of the call's own -/
theorem own_form {w : World} {base : Nat} {e : TypeId} {size : Nat} {v : Value} {n : Nat} {cs : List Value} (h : w.ownsRow base e size v n cs) :
    ∃ A c, v = .slice A n c ∧ (0 < n → ∃ b, A = some ⟨b, 0, none⟩ ∧ base ≤ b ∧ b < w.heap.size ∧ ∀ j u, cs[j]? = some u → Cl w b j u) := by
  rcases h.2 with ⟨rfl, rfl⟩ | ⟨g, cap, cur, rfl, hb, hg, hnc, hcm, hcs, ht⟩
  · exact ⟨none, 0, rfl, fun hn => absurd hn (by omega)⟩
  · refine ⟨_, _, rfl, fun _ => ⟨g, rfl, hb, ?_, fun j u hu => ?_⟩⟩
    · rcases Nat.lt_or_ge g w.heap.size with hlt | hge
      · exact hlt
      · rw [Array.getElem?_eq_none hge] at hg; cases hg
    · constructor
      · have := h.cells (g := g) rfl j u hu
        simpa [Addr.add] using (by by_cases hj : j = 0 <;> simp_all [Addr.add])
      · simp [World.frozen?, hg]

/-- The slice that a row of the call's own reads as. -/
theorem own_str {w : World} {base : Nat} {e : TypeId} {v : Value} {n : Nat} {ys : List Str} (h : w.ownsRow base e 1 v n (ys.map Value.string)) :
    ∃ A c, v = .slice A n c ∧ RStr w base A n ys := by
  obtain ⟨A, c, hv, hf⟩ := own_form h
  have hl : ys.length = n := by have := h.1; simpa using this
  refine ⟨A, c, hv, hl, fun hn => ?_⟩
  obtain ⟨b, e1, h1, h2, hc⟩ := hf hn
  refine ⟨b, 0, e1, h1, h2, fun k hk => ?_⟩
  have := hc k (.string (nth ys k)) (by rw [List.getElem?_map, List.getElem?_eq_getElem (by omega), nth_eq (by omega)]; rfl)
  simpa [strE] using this

theorem flat_at {α β : Type} [Inhabited α] {f : α → List β} {m : Nat} (hf : ∀ x, (f x).length = m) : ∀ (xs : List α) (k i : Nat), k < xs.length → i < m → (xs.flatMap f)[k * m + i]? = (f (nth xs k))[i]?
  | [], k, i, hk, _ => absurd hk (by simp)
  | x :: xs, 0, i, _, hi => by
    have h0 : nth (x :: xs) 0 = x := rfl
    rw [h0, List.flatMap_cons, Nat.zero_mul, Nat.zero_add, List.getElem?_append_left (by rw [hf]; exact hi)]
  | x :: xs, k + 1, i, hk, hi => by
    have h0 : nth (x :: xs) (k + 1) = nth xs k := rfl
    rw [h0, List.flatMap_cons, List.getElem?_append_right (by rw [hf, Nat.succ_mul]; omega), ← flat_at hf xs k i (by simpa using hk) hi]
    congr 1
    rw [hf, Nat.succ_mul]
    omega
theorem flat_len {α β : Type} {f : α → List β} {m : Nat} (hf : ∀ x, (f x).length = m) : ∀ xs : List α, (xs.flatMap f).length = xs.length * m
  | [] => by simp
  | x :: xs => by rw [List.flatMap_cons, List.length_append, hf, flat_len hf xs, List.length_cons, Nat.succ_mul]; omega

def gcells (g : Guard) : List Value := [.string g.name, .int .i64 g.var, .int .i64 g.least]
theorem gcells_len (g : Guard) : (gcells g).length = 3 := rfl
theorem own_guard {w : World} {base : Nat} {e : TypeId} {v : Value} {n : Nat} {gs : List Guard} (h : w.ownsRow base e 3 v n (gs.flatMap gcells)) :
    ∃ A c, v = .slice A n c ∧ RGuard w base A n gs := by
  obtain ⟨A, c, hv, hf⟩ := own_form h
  have hl : gs.length = n := by have := h.1; rw [flat_len gcells_len] at this; omega
  refine ⟨A, c, hv, hl, fun hn => ?_⟩
  obtain ⟨b, e1, h1, h2, hc⟩ := hf hn
  refine ⟨b, 0, e1, h1, h2, fun k hk => ?_⟩
  have h3 : ∀ i u, i < 3 → (gcells (nth gs k))[i]? = some u → Cl w b (0 + k * 3 + i) u := fun i u hi hu => by
    have := hc (k * 3 + i) u (by rw [flat_at gcells_len gs k i (by omega) hi]; exact hu)
    rwa [Nat.zero_add]
  exact ⟨h3 0 _ (by omega) rfl, h3 1 _ (by omega) rfl, h3 2 _ (by omega) rfl⟩
theorem own_int {w : World} {base : Nat} {e : TypeId} {v : Value} {n : Nat} {ys : List Int} (h : w.ownsRow base e 1 v n (ys.map (Value.int .i64))) :
    ∃ A c, v = .slice A n c ∧ RInt w base A n ys := by
  obtain ⟨A, c, hv, hf⟩ := own_form h
  have hl : ys.length = n := by have := h.1; simpa using this
  refine ⟨A, c, hv, hl, fun hn => ?_⟩
  obtain ⟨b, e1, h1, h2, hc⟩ := hf hn
  refine ⟨b, 0, e1, h1, h2, fun k hk => ?_⟩
  have := hc k (.int .i64 (nth ys k)) (by rw [List.getElem?_map, List.getElem?_eq_getElem (by omega), nth_eq (by omega)]; rfl)
  simpa [intE] using this

theorem blk_cl {w : World} {b k : Nat} {cs : Array Value} {e : TypeId} {v : Value} (h : w.heap[b]? = some (.cells cs e (0, 0))) (hv : cs[k]? = some v) : Cl w b k v := by
  constructor
  · have : w.cell? ⟨b, k, none⟩ = cs[k]? := by unfold World.cell?; rw [h]; rfl
    rw [this, hv]
  · unfold World.frozen?; rw [h]; simp
/-- A literal list in a block of its own. -/
theorem lit_str {w : World} {e : TypeId} {cs : Array Value} (xs : List Str) (n : Nat) (h : cs.toList = xs.map Value.string) (hn : xs.length = n) : RStr (w.alloc (.cells cs e)) w.heap.size (some ⟨w.heap.size, 0, none⟩) n xs := by
  refine ⟨hn, fun _ => ⟨w.heap.size, 0, rfl, Nat.le_refl _, by simp, fun k hk => ?_⟩⟩
  have hh := heap_alloc_new w (.cells cs e)
  have : cs[k]? = some (.string (nth xs k)) := by
    rw [← Array.getElem?_toList, h, List.getElem?_map, List.getElem?_eq_getElem (by omega), nth_eq (by omega)]; rfl
  have h2 := blk_cl hh this
  simpa [strE] using h2
theorem lit_int {w : World} {e : TypeId} {cs : Array Value} (xs : List Int) (n : Nat) (h : cs.toList = xs.map (Value.int .i64)) (hn : xs.length = n) : RInt (w.alloc (.cells cs e)) w.heap.size (some ⟨w.heap.size, 0, none⟩) n xs := by
  refine ⟨hn, fun _ => ⟨w.heap.size, 0, rfl, Nat.le_refl _, by simp, fun k hk => ?_⟩⟩
  have hh := heap_alloc_new w (.cells cs e)
  have : cs[k]? = some (.int .i64 (nth xs k)) := by
    rw [← Array.getElem?_toList, h, List.getElem?_map, List.getElem?_eq_getElem (by omega), nth_eq (by omega)]; rfl
  have h2 := blk_cl hh this
  simpa [intE] using h2

structure Own (e : TypeId) (size : Nat) (w0 w : World) (v : Value) (n : Nat) (cs : List Value) : Prop where
  row : w.ownsRow w0.heap.size e size v n cs
  below : Below w0.heap.size w0 w
section
variable {e : TypeId} {size n : Nat} {w0 w w' : World} {v v' : Value} {cs cs' : List Value}
theorem Own.alloc (h : Own e size w0 w v n cs) (o : Obj) : Own e size w0 (w.alloc o) v n cs := ⟨h.row.alloc o, h.below.alloc h.below.size o⟩
theorem Own.drewN (h : Own e size w0 w v n cs) (k : Nat) : Own e size w0 (w.drewN k) v n cs := ⟨h.row, below_drewN h.below k⟩
theorem Own.next {n' : Nat} (h : Own e size w0 w v n cs) (hr : w'.ownsRow w0.heap.size e size v' n' cs') (hg : w.grownBy w' v.ownBlock) : Own e size w0 w' v' n' cs' :=
  ⟨hr, h.below.grown hg h.below.size fun k hk => (h.row.lt k hk).1⟩
theorem Own.below_ (h : Own e size w0 w v n cs) (hb : Below w.heap.size w w') : Own e size w0 w' v n cs :=
  ⟨h.row.kept (row := none) ⟨hb.os, hb.tape, hb.output, hb.size, fun k hk _ => hb.block k hk⟩ (by
    rcases h.row.2 with ⟨rfl, _⟩ | ⟨g, cap, cur, rfl, _⟩
    · left; rfl
    · right; simp [Value.ownBlock]), h.below.trans (hb.mono h.below.size)⟩
end

theorem Cl.set_same {w : World} {b o : Nat} {u v : Value} (h : Cl w b o u) : Cl (w.setCell ⟨b, o, none⟩ v) b o v := ⟨World.cell?_setCell_same w _ v h.1, by rw [World.frozen?_setCell]; exact h.2⟩
theorem Cl.set_other {w : World} {b o b' o' : Nat} {u v : Value} (h : Cl w b o u) (hne : b ≠ b' ∨ o ≠ o') : Cl (w.setCell ⟨b', o', none⟩ v) b o u :=
  ⟨(World.cell?_setCell_other w _ _ v (fun e => by injection e with e1 e2; rcases hne with h | h <;> omega)).trans h.1, by rw [World.frozen?_setCell]; exact h.2⟩
theorem nth_set {α : Type} [Inhabited α] {xs : List α} {j k : Nat} {y : α} (hj : j < xs.length) : nth (xs.set j y) k = if k = j then y else nth xs k := by
  unfold nth
  rw [List.getD_eq_getElem?_getD, List.getD_eq_getElem?_getD, List.getElem?_set]
  by_cases h : j = k
  · subst h; simp [hj]
  · rw [if_neg h, if_neg (fun e => h e.symm)]
theorem RGuard.setVar {w : World} {lo b off n j : Nat} {gs : List Guard} (h : RGuard w lo (some ⟨b, off, none⟩) n gs) (hj : j < n) (x : Int) :
    RGuard (w.setCell ⟨b, off + j * 3 + 1, none⟩ (.int .i64 x)) lo (some ⟨b, off, none⟩) n (gs.set j { nth gs j with var := x }) := by
  refine ⟨by rw [List.length_set]; exact h.1, fun hn => ?_⟩
  obtain ⟨b', off', e, h1, h2, hc⟩ := h.2 hn
  injection e with e; injection e with e1 e2
  subst e1; subst e2
  refine ⟨b, off, rfl, h1, by simpa using h2, fun k hk => ?_⟩
  obtain ⟨c1, c2, c3⟩ := hc k hk
  rw [nth_set (by rw [h.1]; exact hj)]
  by_cases hkj : k = j
  · subst hkj
    rw [if_pos rfl]
    exact ⟨c1.set_other (.inr (by show off + k * 3 ≠ _; omega)), c2.set_same, c3.set_other (.inr (by show off + k * 3 + 2 ≠ _; omega))⟩
  · rw [if_neg hkj]
    exact ⟨c1.set_other (.inr (by show off + k * 3 ≠ _; omega)), c2.set_other (.inr (by show off + k * 3 + 1 ≠ _; omega)), c3.set_other (.inr (by show off + k * 3 + 2 ≠ _; omega))⟩

theorem RInt.hset {w : World} {lo hi b off n j : Nat} {xs : List Int} (h : RH intE w lo hi (some ⟨b, off, none⟩) n xs) (hj : j < n) (x : Int) :
    RH intE (w.setCell ⟨b, off + j, none⟩ (.int .i64 x)) lo hi (some ⟨b, off, none⟩) n (xs.set j x) := by
  refine ⟨by rw [List.length_set]; exact h.1, fun hn => ?_⟩
  obtain ⟨b', off', e, h1, h2, hc⟩ := h.2 hn
  injection e with e; injection e with e1 e2
  subst e1; subst e2
  refine ⟨b, off, rfl, h1, h2, fun k hk => ?_⟩
  have c1 : Cl w b (off + k) (.int .i64 (nth xs k)) := by have := hc k hk; simpa [intE] using this
  have : Cl (w.setCell ⟨b, off + j, none⟩ (.int .i64 x)) b (off + k) (.int .i64 (nth (xs.set j x) k)) := by
    rw [nth_set (by rw [h.1]; exact hj)]
    by_cases hkj : k = j
    · subst hkj; rw [if_pos rfl]; exact c1.set_same
    · rw [if_neg hkj]; exact c1.set_other (.inr (by omega))
  simpa [intE] using this

theorem RInt.set_ {w : World} {lo b off n j : Nat} {xs : List Int} (h : RInt w lo (some ⟨b, off, none⟩) n xs) (hj : j < n) (x : Int) :
    RInt (w.setCell ⟨b, off + j, none⟩ (.int .i64 x)) lo (some ⟨b, off, none⟩) n (xs.set j x) := (RInt.hset h.low hj x).up (by simp)
theorem RStr.hset {w : World} {lo hi b off n j : Nat} {xs : List Str} (h : RH strE w lo hi (some ⟨b, off, none⟩) n xs) (hj : j < n) (x : Str) :
    RH strE (w.setCell ⟨b, off + j, none⟩ (.string x)) lo hi (some ⟨b, off, none⟩) n (xs.set j x) := by
  refine ⟨by rw [List.length_set]; exact h.1, fun hn => ?_⟩
  obtain ⟨b', off', e, h1, h2, hc⟩ := h.2 hn
  injection e with e; injection e with e1 e2
  subst e1; subst e2
  refine ⟨b, off, rfl, h1, h2, fun k hk => ?_⟩
  have c1 : Cl w b (off + k) (.string (nth xs k)) := by have := hc k hk; simpa [strE] using this
  have : Cl (w.setCell ⟨b, off + j, none⟩ (.string x)) b (off + k) (.string (nth (xs.set j x) k)) := by
    rw [nth_set (by rw [h.1]; exact hj)]
    by_cases hkj : k = j
    · subst hkj; rw [if_pos rfl]; exact c1.set_same
    · rw [if_neg hkj]; exact c1.set_other (.inr (by omega))
  simpa [strE] using this
theorem RStr.set_ {w : World} {lo b off n j : Nat} {xs : List Str} (h : RStr w lo (some ⟨b, off, none⟩) n xs) (hj : j < n) (x : Str) :
    RStr (w.setCell ⟨b, off + j, none⟩ (.string x)) lo (some ⟨b, off, none⟩) n (xs.set j x) := (RStr.hset h.low hj x).up (by simp)

/-! ### A reader of a code: a block that is written, all else stays -/
abbrev On (g : Nat) (w w' : World) : Prop := w.grownBy w' (some g)
section
variable {g : Nat} {w w1 w2 w' : World}
theorem On.refl (g : Nat) (w : World) : On g w w := World.grownBy.refl w _
theorem On.trans (h : On g w w1) (k : On g w1 w2) : On g w w2 :=
  ⟨k.os.trans h.os, k.tape.trans h.tape, k.output.trans h.output, Nat.le_trans h.size k.size, fun i hi hne => (k.block i (Nat.lt_of_lt_of_le hi h.size) hne).trans (h.block i hi hne)⟩
theorem On.alloc (h : On g w w1) (o : Obj) : On g w (w1.alloc o) := h.trans (World.grownBy_alloc w1 o _)
theorem On.drewN (h : On g w w1) (n : Nat) : On g w (w1.drewN n) := ⟨h.os, h.tape, h.output, h.size, h.block⟩
theorem On.set_ (h : On g w w1) (o : Nat) (u : Value) : On g w (w1.setCell ⟨g, o, none⟩ u) :=
  h.trans ⟨rfl, rfl, rfl, by simp [World.setCell], fun k _ hk => Below.heap_setCell _ _ _ _ (by intro e; exact hk (by rw [e]))⟩
theorem On.setNew (h : On g w w1) {b : Nat} (hb : w.heap.size ≤ b) (o : Nat) (u : Value) : On g w (w1.setCell ⟨b, o, none⟩ u) :=
  ⟨h.os, h.tape, h.output, by simpa [World.setCell] using h.size, fun i hi hne => (Below.heap_setCell w1 ⟨b, o, none⟩ u i (by intro e; simp at e; omega)).trans (h.block i hi hne)⟩
theorem On.grown {row : Option Nat} (h : On g w w1) (hg : w1.grownBy w2 row) (hr : ∀ k, row = some k → w.heap.size ≤ k) : On g w w2 :=
  ⟨hg.os.trans h.os, hg.tape.trans h.tape, hg.output.trans h.output, Nat.le_trans h.size hg.size, fun i hi hne => (hg.block i (Nat.lt_of_lt_of_le hi h.size) (by intro e; have := hr i e.symm; omega)).trans (h.block i hi hne)⟩
theorem On.of_below (h : Below w.heap.size w w1) : On g w w1 := ⟨h.os, h.tape, h.output, h.size, fun i hi _ => h.block i hi⟩
theorem On.below (h : On g w w1) : Below g w w1 ∨ w.heap.size ≤ g := by
  rcases Nat.lt_or_ge g w.heap.size with hl | hl
  · exact .inl ⟨h.os, h.tape, h.output, h.size, fun k hk => h.block k (by omega) (by intro e; injection e; omega)⟩
  · exact .inr hl
theorem On.low (h : On g w w1) (hl : g ≤ w.heap.size) : Below g w w1 := ⟨h.os, h.tape, h.output, h.size, fun k hk => h.block k (by omega) (by intro e; injection e; omega)⟩
theorem On.cell (h : On g w w1) {b o : Nat} (hb : b < w.heap.size) (hne : b ≠ g) : w1.cell? ⟨b, o, none⟩ = w.cell? ⟨b, o, none⟩ :=
  World.cell?_of_block (w := w) (h.block b hb (by intro e; injection e; omega))
theorem heap_lt {w : World} {b : Nat} {x : Obj} (h : w.heap[b]? = some x) : b < w.heap.size := by
  rcases Nat.lt_or_ge b w.heap.size with hlt | hge
  · exact hlt
  · rw [Array.getElem?_eq_none hge] at h; cases h
theorem On.blk (h : On g w w1) {b : Nat} {x : Obj} (hb : w.heap[b]? = some x) (hne : b ≠ g) : w1.heap[b]? = some x :=
  (h.block b (heap_lt hb) (by intro e; injection e with e; exact hne e)).trans hb
theorem grown_blk {row : Option Nat} (h : w.grownBy w1 row) {b : Nat} {x : Obj} (hb : w.heap[b]? = some x) (hne : row ≠ some b) : w1.heap[b]? = some x :=
  (h.block b (heap_lt hb) (Ne.symm hne)).trans hb
theorem On.frozen (h : On g w w1) {b o : Nat} (hb : b < w.heap.size) (hne : b ≠ g) : w1.frozen? ⟨b, o, none⟩ = w.frozen? ⟨b, o, none⟩ :=
  World.frozen?_of_block (w := w) (h.block b hb (by intro e; injection e; omega))
end

def Rd (T : TypeId) (w : World) (g p : Nat) : Prop :=
  ∃ A n c, n ≤ 2000 ∧ w.heap[g]? = some (.cells #[.slice A n c, .int .i64 (p : Int)] T (0, 0)) ∧
    (0 < n → ∃ b off, A = some ⟨b, off, none⟩ ∧ b < g ∧ ∀ k, k < n → ∃ u : Nat, u < 256 ∧ w.cell? ⟨b, off + k, none⟩ = some (.int .u8 (u : Int)))
theorem Rd.lt {T : TypeId} {w : World} {g p : Nat} (h : Rd T w g p) : g < w.heap.size := by
  obtain ⟨A, n, c, _, hg, _⟩ := h
  rcases Nat.lt_or_ge g w.heap.size with hlt | hge
  · exact hlt
  · rw [Array.getElem?_eq_none hge] at hg; cases hg
theorem Same.of_on {g lo : Nat} {w w' : World} (h : On g w w') (hg : g < lo) : Same lo w.heap.size w w' := ⟨fun i h1 h2 => h.block i h2 (by intro e; injection e; omega)⟩
theorem RL.on {α : Type} [Inhabited α] {E : Elem α} {w w' : World} {lo n g : Nat} {A : Option Addr} {xs : List α} (h : RL E w lo A n xs) (ho : On g w w') (hg : g < lo) : RL E w' lo A n xs := (h.low.same (Same.of_on ho hg)).up ho.size
theorem Rd.step {T : TypeId} {w : World} {g p : Nat} (h : Rd T w g p) : Rd T (w.setCell ⟨g, 1, none⟩ (.int .i64 ((p : Int) + 1))) g (p + 1) := by
  obtain ⟨A, len, c, hlen, hg, hr⟩ := h
  refine ⟨A, len, c, hlen, ?_, fun h0 => ?_⟩
  · simp only [World.setCell, Array.getElem?_modify, hg]; simp
  · obtain ⟨b, off, e, hb, hc⟩ := hr h0
    refine ⟨b, off, e, hb, fun k hk => ?_⟩
    obtain ⟨u, hu, hcu⟩ := hc k hk
    exact ⟨u, hu, (World.cell?_setCell_other w _ _ _ (fun e => by subst_vars; injection e; omega)).trans hcu⟩

/-- The reader in block g stands at q at most; but for its block all that was in w0 is as it was. -/
structure Dr (T : TypeId) (w0 : World) (g q : Nat) (w : World) : Prop where
  on : On g w0 w
  rd : ∃ p, p ≤ q ∧ Rd T w g p
theorem Dr.lt {T : TypeId} {w0 w : World} {g q : Nat} (h : Dr T w0 g q w) : g < w.heap.size := by
  obtain ⟨p, _, hr⟩ := h.rd; exact hr.lt
/-- Kept where its block and those below are kept. -/
theorem Rd.keep {T : TypeId} {w w' : World} {g p : Nat} (h : Rd T w g p) (hb : Below w.heap.size w w') : Rd T w' g p := by
  have hl := h.lt
  obtain ⟨A, n, c, hn, hg, hr⟩ := h
  refine ⟨A, n, c, hn, (hb.block g hl).trans hg, fun h0 => ?_⟩
  obtain ⟨b, off, e, hbg, hc⟩ := hr h0
  refine ⟨b, off, e, hbg, fun k hk => ?_⟩
  obtain ⟨u, hu, hcu⟩ := hc k hk
  exact ⟨u, hu, (hb.cell (p := ⟨b, off + k, none⟩) (by show b < _; omega)).trans hcu⟩

theorem Dr.below {T : TypeId} {w0 w w' : World} {g q : Nat} (h : Dr T w0 g q w) (hb : Below w.heap.size w w') : Dr T w0 g q w' := by
  obtain ⟨p, hp, hr⟩ := h.rd
  exact ⟨h.on.trans (On.of_below hb), p, hp, hr.keep hb⟩
theorem Dr.alloc {T : TypeId} {w0 w : World} {g q : Nat} (h : Dr T w0 g q w) (o : Obj) : Dr T w0 g q (w.alloc o) := h.below ((Below.refl _ _).alloc (Nat.le_refl _) o)
theorem Dr.drewN {T : TypeId} {w0 w : World} {g q : Nat} (h : Dr T w0 g q w) (k : Nat) : Dr T w0 g q (w.drewN k) := h.below (below_drewN (Below.refl _ _) k)
theorem Dr.more {T : TypeId} {w0 w : World} {g q q' : Nat} (h : Dr T w0 g q w) (hq : q ≤ q') : Dr T w0 g q' w := by
  obtain ⟨p, hp, hr⟩ := h.rd
  exact ⟨h.on, p, by omega, hr⟩
/-- A write into a block that is neither the reader's nor one below it. -/
theorem Dr.set_ {T : TypeId} {w0 w : World} {g q : Nat} (h : Dr T w0 g q w) {b : Nat} (hb : w0.heap.size ≤ b) (hg : g < b) (o : Nat) (u : Value) : Dr T w0 g q (w.setCell ⟨b, o, none⟩ u) := by
  obtain ⟨p, hp, hr⟩ := h.rd
  refine ⟨h.on.setNew hb o u, p, hp, ?_⟩
  obtain ⟨A, n, c, hn, hgg, hrr⟩ := hr
  refine ⟨A, n, c, hn, (Below.heap_setCell w ⟨b, o, none⟩ u g (by simp; omega)).trans hgg, fun h0 => ?_⟩
  obtain ⟨b', off, e, hbg, hc⟩ := hrr h0
  refine ⟨b', off, e, hbg, fun k hk => ?_⟩
  obtain ⟨u', hu, hcu⟩ := hc k hk
  exact ⟨u', hu, (World.cell?_setCell_other w _ _ _ (fun e => by injection e; omega)).trans hcu⟩
theorem Dr.grown {T : TypeId} {w0 w w' : World} {g q : Nat} {row : Option Nat} (h : Dr T w0 g q w) (hg : w.grownBy w' row) (hr : ∀ k, row = some k → w0.heap.size ≤ k ∧ g < k) : Dr T w0 g q w' := by
  obtain ⟨p, hp, hrd⟩ := h.rd
  refine ⟨h.on.grown hg (fun k hk => (hr k hk).1), p, hp, ?_⟩
  have hl := hrd.lt
  obtain ⟨A, n, c, hn, hgg, hrr⟩ := hrd
  refine ⟨A, n, c, hn, (hg.block g hl (by intro e; have := (hr g e.symm).2; omega)).trans hgg, fun h0 => ?_⟩
  obtain ⟨b', off, e, hbg, hc⟩ := hrr h0
  refine ⟨b', off, e, hbg, fun k hk => ?_⟩
  obtain ⟨u', hu, hcu⟩ := hc k hk
  exact ⟨u', hu, (World.cell?_of_block (w := w) (a := ⟨b', off + k, none⟩) (hg.block b' (by omega) (by intro e; have := (hr b' e.symm).2; omega))).trans hcu⟩

/-- A row of the call's own is kept where the reader reads. -/
theorem row_on {w w' : World} {base g : Nat} {e : TypeId} {size : Nat} {v : Value} {n : Nat} {cs : List Value} (h : w.ownsRow base e size v n cs) (ho : On g w w') (hg : g < base) : w'.ownsRow base e size v n cs :=
  h.kept ho (by
    rcases Option.eq_none_or_eq_some v.ownBlock with hn | ⟨k, hk⟩
    · exact .inl hn
    · right; rw [hk]; intro e; injection e with e; have := (h.lt k hk).1; omega)
theorem row_below {w w' : World} {base : Nat} {e : TypeId} {size : Nat} {v : Value} {n : Nat} {cs : List Value} (h : w.ownsRow base e size v n cs) (hb : Below w.heap.size w w') : w'.ownsRow base e size v n cs :=
  h.kept (row := none) ⟨hb.os, hb.tape, hb.output, hb.size, fun k hk _ => hb.block k hk⟩ (by
    rcases Option.eq_none_or_eq_some v.ownBlock with hn | ⟨k, hk⟩
    · exact .inl hn
    · right; rw [hk]; intro e; cases e)

theorem Dr.drew {T : TypeId} {w0 w : World} {g q : Nat} (h : Dr T w0 g q w) : Dr T w0 g q w.drew := h.below (Below.refl _ _).drew
theorem Dr.trans {T : TypeId} {w0 w w' : World} {g q q' : Nat} (h : Dr T w0 g q w) (k : Dr T w g q' w') : Dr T w0 g q' w' := ⟨h.on.trans k.on, k.rd⟩
theorem Dr.here {T : TypeId} {w0 w : World} {g q : Nat} (h : Dr T w0 g q w) : Dr T w g q w := ⟨On.refl g w, h.rd⟩
theorem row_ne {w : World} {base : Nat} {e t : TypeId} {size : Nat} {v : Value} {n : Nat} {cs : List Value} (h : w.ownsRow base e size v n cs) {b : Nat} {cs' : Array Value} {fr : Nat × Nat} (hb : w.heap[b]? = some (.cells cs' t fr)) (hne : e ≠ t) : v.ownBlock ≠ some b := by
  rcases h.2 with ⟨rfl, _⟩ | ⟨g, cap, cur, rfl, _, hg, _⟩
  · simp [Value.ownBlock]
  · intro he
    have e1 : g = b := by simpa [Value.ownBlock] using he
    subst e1
    rw [hg] at hb
    injection hb with hb
    injection hb with _ ht
    exact hne ht

theorem i64_xor_pos (a b : Nat) (ha : a < 9223372036854775808) (hb : b < 9223372036854775808) : 0 ≤ bits .xor .i64 (a : Int) (b : Int) ∧ bits .xor .i64 (a : Int) (b : Int) < 9223372036854775808 := by
  have ofInt : ∀ a : Nat, a < 9223372036854775808 → (BitVec.ofInt 64 (a : Int)).toNat = a := fun a ha => by
    rw [BitVec.ofInt_natCast, BitVec.toNat_ofNat]; exact Nat.mod_eq_of_lt (by omega)
  have hx : a ^^^ b < 2 ^ 63 := Nat.xor_lt_two_pow (by omega) (by omega)
  have : bits .xor .i64 (a : Int) (b : Int) = ((a ^^^ b : Nat) : Int) := by
    show IntKind.i64.wrap ((BitVec.ofInt 64 (a : Int) ^^^ BitVec.ofInt 64 (b : Int)).toNat : Int) = _
    rw [BitVec.toNat_xor, ofInt a ha, ofInt b hb, IntKind.wrap_i64]
    omega
  rw [this]
  omega

theorem heap_new {w : World} {o : Obj} {b : Nat} (h : b = w.heap.size) : (w.alloc o).heap[b]? = some o := by
  subst h; exact heap_alloc_new w o

theorem heap_old {w : World} {o x : Obj} {b : Nat} (h : w.heap[b]? = some x) : (w.alloc o).heap[b]? = some x := by
  have hb : b < w.heap.size := by
    rcases Nat.lt_or_ge b w.heap.size with hlt | hge
    · exact hlt
    · rw [Array.getElem?_eq_none hge] at h; cases h
  exact (Below.heap_alloc w o b hb).trans h
theorem take_nth {α : Type} [Inhabited α] {xs : List α} {k : Nat} (h : k < xs.length) : xs.take (k + 1) = xs.take k ++ [nth xs k] := by
  rw [List.take_succ_eq_append_getElem h, nth_eq h]

theorem fa_succ {P : Nat → Prop} {k : Nat} (h : ∀ j, j < k → P j) (hk : P k) : ∀ j, j < k + 1 → P j := fun j hj => by
  rcases Nat.lt_succ_iff_lt_or_eq.1 hj with h' | rfl
  · exact h j h'
  · exact hk
theorem fa_zero {P : Nat → Prop} : ∀ j, j < 0 → P j := fun j hj => absurd hj (by omega)

def allN (n : Nat) (p : Nat → Bool) : Bool := (List.range n).all p

theorem allN_true {n : Nat} {p : Nat → Bool} (h : ∀ j, j < n → p j = true) : allN n p = true := by
  unfold allN; rw [List.all_eq_true]; intro x hx; exact h x (List.mem_range.1 hx)
theorem allN_false {n : Nat} {p : Nat → Bool} {j : Nat} (hj : j < n) (h : p j = false) : allN n p = false := by
  cases hh : allN n p
  · rfl
  · unfold allN at hh; rw [List.all_eq_true] at hh
    have := hh j (List.mem_range.2 hj)
    rw [h] at this; cases this
theorem allN_iff {n : Nat} {p : Nat → Bool} : allN n p = true ↔ ∀ j, j < n → p j = true := by
  unfold allN; rw [List.all_eq_true]; simp [List.mem_range]


theorem ret_b {a b : Bool} (h : a = b) : Ending.returned (.bool a) = Ending.returned (.bool b) := by rw [h]
theorem ret_i {k : IntKind} {a b : Int} (h : a = b) : Ending.returned (.int k a) = Ending.returned (.int k b) := by rw [h]
theorem ret_s {a b : Str} (h : a = b) : Ending.returned (.string a) = Ending.returned (.string b) := by rw [h]
theorem seq_t {a b : Str} (h : a = b) : (a.toList == b.toList) = true := by rw [h]; simp
theorem seq_f {a b : Str} (h : a ≠ b) : (a.toList == b.toList) = false := by
  rw [beq_eq_false_iff_ne]; intro e; apply h
  have h1 : a.data.toList = b.data.toList := by simpa [ByteArray.toList_eq] using e
  cases a; cases b; simp at h1; simp [h1]
theorem eq4 (n : Nat) : ((n : Int) == 4) = decide (n = 4) := by
  rw [Bool.eq_iff_iff, beq_iff_eq, decide_eq_true_iff]; omega
theorem eqN (n m : Nat) : ((n : Int) == (m : Int)) = decide (n = m) := by
  rw [Bool.eq_iff_iff, beq_iff_eq, decide_eq_true_iff]; omega
theorem bt {b : Bool} (h : ¬ b = false) : b = true := by cases b <;> simp_all
theorem bf {b : Bool} (h : ¬ b = true) : b = false := by cases b <;> simp_all

theorem str_ext {a b : Str} : a.toList = b.toList ↔ a = b := by
  constructor
  · intro h
    have h1 : a.data.toList = b.data.toList := by simpa [ByteArray.toList_eq] using h
    cases a; cases b; simp at h1; simp [h1]
  · rintro rfl; rfl

instance strLaw : LawfulBEq ByteArray where
  eq_of_beq {a b} h := by
    have h1 : (a.data == b.data) = true := h
    have h2 : a.data = b.data := by simpa using h1
    cases a; cases b; simp_all
  rfl {a} := by
    have : (a == a) = (a.data == a.data) := rfl
    rw [this]; simp

def lowB (c : UInt8) : Bool := decide (97 ≤ (c.toNat : Int)) && decide ((c.toNat : Int) ≤ 122)
/-- A valid name. -/
def nameB (s : Str) : Bool := decide (1 ≤ (s.size : Int)) && decide ((s.size : Int) ≤ 5) && s.data.toList.all lowB
def strLt (a b : Str) : Bool := Op.bytesLess a.toList b.toList
theorem bl_irr : ∀ x : List UInt8, Op.bytesLess x x = false
  | [] => rfl
  | a :: x => by simp [Op.bytesLess, bl_irr x]
theorem bl_tri : ∀ x y : List UInt8, Op.bytesLess x y = true ∨ x = y ∨ Op.bytesLess y x = true
  | [], [] => .inr (.inl rfl)
  | [], _ :: _ => .inl rfl
  | _ :: _, [] => .inr (.inr rfl)
  | a :: x, b :: y => by
    simp only [Op.bytesLess, Bool.or_eq_true, decide_eq_true_eq, Bool.and_eq_true, beq_iff_eq, UInt8.lt_iff_toNat_lt]
    rcases Nat.lt_trichotomy a.toNat b.toNat with h | h | h
    · exact .inl (.inl h)
    · have e := UInt8.toNat_inj.1 h
      subst e
      rcases bl_tri x y with h' | rfl | h'
      · exact .inl (.inr ⟨rfl, h'⟩)
      · exact .inr (.inl rfl)
      · exact .inr (.inr (.inr ⟨rfl, h'⟩))
    · exact .inr (.inr (.inl h))
theorem bl_trans : ∀ x y z : List UInt8, Op.bytesLess x y = true → Op.bytesLess y z = true → Op.bytesLess x z = true
  | _, [], _, h, _ => by cases ‹List UInt8› <;> simp [Op.bytesLess] at h
  | _, _ :: _, [], _, h => by simp [Op.bytesLess] at h
  | [], _ :: _, _ :: _, _, _ => rfl
  | a :: x, b :: y, c :: z, h1, h2 => by
    simp only [Op.bytesLess, Bool.or_eq_true, decide_eq_true_eq, Bool.and_eq_true, beq_iff_eq, UInt8.lt_iff_toNat_lt] at h1 h2 ⊢
    rcases h1 with h1 | ⟨rfl, h1⟩
    · rcases h2 with h2 | ⟨rfl, h2⟩
      · left; omega
      · left; exact h1
    · rcases h2 with h2 | ⟨rfl, h2⟩
      · left; exact h2
      · right; exact ⟨rfl, bl_trans x y z h1 h2⟩
theorem strLt_irr (a : Str) : strLt a a = false := bl_irr _
theorem strLt_trans {a b c : Str} (h1 : strLt a b = true) (h2 : strLt b c = true) : strLt a c = true := bl_trans _ _ _ h1 h2
theorem strLt_tri (a b : Str) : strLt a b = true ∨ a = b ∨ strLt b a = true := by
  rcases bl_tri a.toList b.toList with h | h | h
  · exact .inl h
  · exact .inr (.inl (str_ext.1 h))
  · exact .inr (.inr h)
theorem strLt_asymm {a b : Str} (h : strLt a b = true) : strLt b a = false := by
  cases h' : strLt b a
  · rfl
  · have := strLt_trans h h'; rw [strLt_irr] at this; cases this
theorem strLt_ne {a b : Str} (h : strLt a b = true) : a ≠ b := by rintro rfl; rw [strLt_irr] at h; cases h
/-- '<=' the other way round. -/
theorem str_le (a b : Str) : (Op.bytesLess b.toList a.toList || b.toList == a.toList) = !(strLt a b) := by
  rcases strLt_tri a b with h | h | h
  · have h1 := strLt_asymm h
    have h2 : (b.toList == a.toList) = false := seq_f (Ne.symm (strLt_ne h))
    rw [h, h2]; unfold strLt at h1; rw [h1]; rfl
  · subst h; rw [strLt_irr]; simp
  · have h1 := strLt_asymm h
    rw [h1]; unfold strLt at h; rw [h]; rfl
def inB (n lo hi : Int) : Bool := decide (lo ≤ n) && decide (n ≤ hi)

/-- The place of a name, or -1. -/
def idxI (xs : List Str) (s : Str) : Int := if s ∈ xs then (xs.findIdx (· = s) : Nat) else -1
def hasB (xs : List Str) (s : Str) : Bool := decide (s ∈ xs)

theorem mem_nth {α : Type} [Inhabited α] {xs : List α} {k : Nat} (h : k < xs.length) : nth xs k ∈ xs := by rw [nth_eq h]; exact List.getElem_mem h
theorem nth_of_mem {α : Type} [Inhabited α] {xs : List α} {x : α} (h : x ∈ xs) : ∃ k, k < xs.length ∧ nth xs k = x := by
  obtain ⟨k, hk, he⟩ := List.getElem_of_mem h
  exact ⟨k, hk, by rw [nth_eq hk]; exact he⟩

theorem idxI_at {xs : List Str} {s : Str} {k : Nat} (hp : ∀ j, j < k → nth xs j ≠ s) (hk : k < xs.length) (he : nth xs k = s) : idxI xs s = k := by
  have hm : s ∈ xs := he ▸ mem_nth hk
  unfold idxI; rw [if_pos hm]
  have : xs.findIdx (· = s) = k := by
    rw [List.findIdx_eq hk]
    refine ⟨by rw [nth_eq hk] at he; simpa using he, fun j hj => ?_⟩
    have := hp j hj
    rw [nth_eq (by omega)] at this
    simpa using this
  rw [this]
theorem idxI_none {xs : List Str} {s : Str} (hp : ∀ j, j < xs.length → nth xs j ≠ s) : idxI xs s = -1 := by
  unfold idxI; rw [if_neg]
  intro hm
  obtain ⟨k, hk, he⟩ := nth_of_mem hm
  exact hp k hk he
theorem idxI_nonneg {xs : List Str} {s : Str} : 0 ≤ idxI xs s ↔ s ∈ xs := by
  unfold idxI; split <;> simp_all
theorem idxI_lo (xs : List Str) (s : Str) : -1 ≤ idxI xs s := by unfold idxI; split <;> omega
theorem idxI_hi (xs : List Str) (s : Str) : idxI xs s < xs.length ∨ idxI xs s = -1 := by
  unfold idxI; split
  · rename_i h
    left
    have : xs.findIdx (· = s) < xs.length := List.findIdx_lt_length_of_exists ⟨s, h, by simp⟩
    omega
  · right; rfl
theorem hasB_true {xs : List Str} {s : Str} : hasB xs s = true ↔ s ∈ xs := by simp [hasB]
theorem hasB_false {xs : List Str} {s : Str} : hasB xs s = false ↔ s ∉ xs := by simp [hasB]
theorem hasB_idx (xs : List Str) (s : Str) : decide (0 ≤ idxI xs s) = hasB xs s := by
  unfold hasB; rw [decide_eq_decide]; exact idxI_nonneg
theorem idx_neg {xs : List Str} {s : Str} (h : hasB xs s = false) : idxI xs s < 0 := by
  rw [← hasB_idx] at h; simp at h; omega
theorem idx_pos {xs : List Str} {s : Str} (h : hasB xs s = true) : 0 ≤ idxI xs s := by
  rw [← hasB_idx] at h; simpa using h

/-- All names of a list are in another one. -/
def haveB (xs ys : List Str) : Bool := allN ys.length fun j => hasB xs (nth ys j)
/-- Names are valid and ascend. -/
def ascAt (xs : List Str) (j : Nat) : Bool := nameB (nth xs j) && (decide (j = 0) || strLt (nth xs (j - 1)) (nth xs j))
def ascB (xs : List Str) : Bool := allN xs.length (ascAt xs)
theorem haveB_iff {xs ys : List Str} : haveB xs ys = true ↔ ∀ y ∈ ys, y ∈ xs := by
  unfold haveB; rw [allN_iff]
  constructor
  · intro h y hy
    obtain ⟨k, hk, rfl⟩ := nth_of_mem hy
    exact hasB_true.1 (h k hk)
  · intro h j hj
    exact hasB_true.2 (h _ (mem_nth hj))

theorem list_ext {α : Type} [Inhabited α] {xs ys : List α} (hl : xs.length = ys.length) (h : ∀ j, j < xs.length → nth xs j = nth ys j) : xs = ys := by
  refine List.ext_getElem hl fun j h1 h2 => ?_
  have := h j h1
  rwa [nth_eq h1, nth_eq h2] at this
def eqB (xs ys : List Str) : Bool := decide (xs = ys)
theorem eqB_len {xs ys : List Str} (h : xs.length ≠ ys.length) : eqB xs ys = false := by
  unfold eqB; simp; rintro rfl; exact h rfl
theorem eqB_at {xs ys : List Str} {j : Nat} (h : nth xs j ≠ nth ys j) : eqB xs ys = false := by
  unfold eqB; simp; rintro rfl; exact h rfl
theorem eqB_all {xs ys : List Str} (hl : xs.length = ys.length) (h : ∀ j, j < xs.length → nth xs j = nth ys j) : eqB xs ys = true := by
  unfold eqB; simpa using list_ext hl h

def guardB (xs : List Guard) (j : Nat) : Bool :=
  nameB (nth xs j).name && inB (nth xs j).var 0 3 && inB (nth xs j).least 0 99 && (decide (j = 0) || strLt (nth xs (j - 1)).name (nth xs j).name)
def guardsB (xs : List Guard) : Bool := allN xs.length (guardB xs) && decide ((xs.length : Int) ≤ 8)
end Go.Proofs.YthdfefgianokgaaDoor

/- append onto a row of the call's own, at the types of the translation. -/
namespace Go.Proofs.YthdfefgianokgaaDoor
open Go.RowKit

theorem info_str : (Tryd.prog.info? 9).map (fun i => (i.zero, i.size, i.bytes)) = some (some (.string ⟨#[]⟩), 1, 16) := by kernel_rfl

/-- 'out = append(out, s)'. -/
theorem app_str {w : World} {ops : Array Oper} {rest : List Oper} {o : Oper} {a : Act} {Q : Exit → Act → World → Prop} (w0 : World) (v : Value) (n : Nat) (ys : List Str) (b : Nat) (s : Str) (hown : Own 9 1 w0 w v n (ys.map Value.string))
    (hgd : o.guard = none) (l x : Operand) (ho : o.op = .call { callee := .builtin .append, args := #[l, x], argTypes := #[23, 23] })
    (hs : a.eval l = v) (hx : a.eval x = .slice (some ⟨b, 0, none⟩) 1 1) (hb : w.heap[b]? = some (.cells #[.string s] 9 (0, 0))) (hn : n ≤ 1048576)
    (h : ∀ v' w', Own 9 1 w0 w' v' (n + 1) ((ys ++ [s]).map Value.string) → w.grownBy w' v.ownBlock → wpList Tryd.prog ops Q rest (a.put o.dst v') w') : wpList Tryd.prog ops Q (o :: rest) a w := by
  obtain ⟨i0, hi0, hz0, hz1, hz2⟩ := info_parts info_str
  refine wpList_append_own w hgd l x 23 ho w0.heap.size 9 i0 _ 1 16 Tryd.underlying23 hi0 hz0 hz1 hz2 rfl (by omega) v n _ hs hown.row ⟨b, 0, none⟩ 1 1 [.string s] hx rfl ?_ ?_ (by unfold maxLen; omega) (by omega) hown.below.size ?_
  · intro j u hu
    match j, hu with
    | 0, hu =>
      have : u = .string s := by simpa using hu.symm
      subst this
      simp [World.cell?, hb, Addr.add]
  · simp [Value.oneCell']
  · intro v' w' h1 h2 _
    have h1' : w'.ownsRow w0.heap.size 9 1 v' (n + 1) ((ys ++ [s]).map Value.string) := by simpa using h1
    exact h v' w' (hown.next h1' h2) h2

theorem info_int : (Tryd.prog.info? 3).map (fun i => (i.zero, i.size, i.bytes)) = some (some (.int .i64 0), 1, 8) := by kernel_rfl
/-- append of one element, cells 'news' in a block just made: at a single operation. -/
theorem wapp {w : World} {o : Oper} {a : Act} {K : Act → World → Prop} {Q : Exit → Act → World → Prop} (T e size bytes : Nat) (z : Value)
    (hT : Tryd.prog.underlying T = some (.slice e)) (hi : (Tryd.prog.info? e).map (fun i => (i.zero, i.size, i.bytes)) = some (some z, size, bytes)) (hzs : z.cells.size = size) (hsz : 0 < size) (hbs : bytes ≤ 64)
    (base : Nat) (v : Value) (n : Nat) (cs news : List Value) (b : Nat) (hown : w.ownsRow base e size v n cs)
    (l x : Operand) (ho : o.op = .call { callee := .builtin .append, args := #[l, x], argTypes := #[T, T] })
    (hs : a.eval l = v) (hx : a.eval x = .slice (some ⟨b, 0, none⟩) 1 1) (hb : w.heap[b]? = some (.cells news.toArray e (0, 0))) (hnl : news.length = size) (h1 : ∀ u ∈ news, u.oneCell' = true) (hn : n ≤ 1048576) (hbase : base ≤ w.heap.size)
    (h : ∀ v' w', w'.ownsRow base e size v' (n + 1) (cs ++ news) → w.grownBy w' v.ownBlock → (v'.ownBlock = v.ownBlock ∨ v'.ownBlock = some w.heap.size) → K (a.put o.dst v') w') : o.wp Tryd.prog a w K Q := by
  obtain ⟨i0, hi0, hz0, hz1, hz2⟩ := info_parts hi
  have hbytes : (n + 1) * bytes ≤ 140737488355328 := by
    have : (n + 1) * bytes ≤ 1048577 * 64 := Nat.mul_le_mul (by omega) hbs
    omega
  obtain ⟨v', w', hr, h2, h3, _, h5⟩ := run_append_own_at (P := Tryd.prog) w base T o.type e i0 z size bytes hT hi0 hz0 hz1 hz2 hzs hsz v n cs hown ⟨b, 0, none⟩ 1 1 news (by omega) (by
    intro j u hu
    have : (⟨b, 0, none⟩ : Addr).add j = ⟨b, j, none⟩ := by unfold Addr.add; split <;> simp_all
    rw [this]
    exact (blk_cl hb (by simpa using hu)).1) h1 (by unfold maxLen; omega) hbytes hbase
  unfold Oper.wp execOp
  simp only [ho, resolve, invoke, builtin, Sem.run_bind, Sem.run_pure, Result.andThen_ok, List.map_toArray, List.map_cons, List.map_nil, hs, hx, hr]
  exact h v' w' h2 h3 h5

/-! ### append of a whole list -/
theorem run_append_of_nil {P : Program} (w : World) (base : Nat) (t ty e : TypeId) (i : TypeInfo) (size : Nat) (ht : P.underlying t = some (.slice e)) (hi : P.info? e = some i)
    (v : Value) (n : Nat) (xs : List Value) (hown : w.ownsRow base e size v n xs) (c : Nat) : (Builtin.append_ #[t, t] ty #[v, .slice none 0 c]).run P w = .ok v w := by
  rcases hown.2 with ⟨rfl, rfl⟩ | ⟨g, cap, cur, rfl, _, _, hnc, _⟩
  · simp [Builtin.append_, run_underlying ht, sizeOf, typeInfo, hi, Builtin.lenOf, Builtin.firstCells]
  · simp [Builtin.append_, run_underlying ht, sizeOf, typeInfo, hi, Builtin.lenOf, Builtin.firstCells, hnc, storeCells]

theorem wappl {w : World} {o : Oper} {a : Act} {K : Act → World → Prop} {Q : Exit → Act → World → Prop} (T e size bytes : Nat) (z : Value)
    (hT : Tryd.prog.underlying T = some (.slice e)) (hi : (Tryd.prog.info? e).map (fun i => (i.zero, i.size, i.bytes)) = some (some z, size, bytes)) (hzs : z.cells.size = size) (hsz : 0 < size) (hbs : bytes ≤ 64)
    (base : Nat) (v : Value) (n : Nat) (cs news : List Value) (A : Option Addr) (m c : Nat) (hown : w.ownsRow base e size v n cs)
    (l x : Operand) (ho : o.op = .call { callee := .builtin .append, args := #[l, x], argTypes := #[T, T] })
    (hs : a.eval l = v) (hx : a.eval x = .slice A m c) (hnl : news.length = m * size) (hnews : 0 < m → ∃ ad, A = some ad ∧ ∀ j u, news[j]? = some u → w.cell? (ad.add j) = some u) (h1 : ∀ u ∈ news, u.oneCell' = true) (hn : n + m ≤ 4194304) (hbase : base ≤ w.heap.size)
    (h : ∀ v' w', w'.ownsRow base e size v' (n + m) (cs ++ news) → w.grownBy w' v.ownBlock → (v'.ownBlock = v.ownBlock ∨ v'.ownBlock = some w.heap.size) → K (a.put o.dst v') w') : o.wp Tryd.prog a w K Q := by
  obtain ⟨i0, hi0, hz0, hz1, hz2⟩ := info_parts hi
  have hbytes : (n + m) * bytes ≤ 140737488355328 := by
    have h2 : (n + m) * bytes ≤ 4194304 * bytes := Nat.mul_le_mul_right _ hn
    omega
  have key : ∃ v' w', (Builtin.append_ #[T, T] o.type #[v, .slice A m c]).run Tryd.prog w = .ok v' w' ∧ w'.ownsRow base e size v' (n + m) (cs ++ news) ∧ w.grownBy w' v.ownBlock ∧
      (v'.ownBlock = v.ownBlock ∨ v'.ownBlock = some w.heap.size) := by
    rcases A with _ | ad
    · have hm : m = 0 := by
        rcases Nat.eq_zero_or_pos m with h0 | h0
        · exact h0
        · obtain ⟨ad, h, _⟩ := hnews h0
          cases h
      subst hm
      have hn0 : news = [] := List.eq_nil_of_length_eq_zero (by simpa using hnl)
      subst hn0
      exact ⟨v, w, run_append_of_nil w base T o.type e i0 size hT hi0 v n cs hown c, by simpa using hown, World.grownBy.refl w _, .inl rfl⟩
    · have hcells : ∀ j u, news[j]? = some u → w.cell? (ad.add j) = some u := by
        intro j u hu
        rcases Nat.eq_zero_or_pos m with h0 | h0
        · subst h0
          have hn0 : news = [] := List.eq_nil_of_length_eq_zero (by simpa using hnl)
          subst hn0
          simp at hu
        · obtain ⟨ad', h, hc⟩ := hnews h0
          have h := Option.some.inj h
          subst h
          exact hc j u hu
      obtain ⟨v', w', hrun, h2, h3, _, h5⟩ := run_append_own_at (P := Tryd.prog) w base T o.type e i0 z size bytes hT hi0 hz0 hz1 hz2 hzs hsz v n cs hown ad m c news hnl hcells h1 (by unfold maxLen; omega) hbytes hbase
      exact ⟨v', w', hrun, h2, h3, h5⟩
  obtain ⟨v', w', hr, h2, h3, h5⟩ := key
  unfold Oper.wp execOp
  simp only [ho, resolve, invoke, builtin, Sem.run_bind, Sem.run_pure, Result.andThen_ok, List.map_toArray, List.map_cons, List.map_nil, hs, hx, hr]
  exact h v' w' h2 h3 h5

theorem news_str {w : World} {lo m : Nat} {A : Option Addr} {ys : List Str} (hr : RStr w lo A m ys) : 0 < m → ∃ ad, A = some ad ∧ ∀ j u, (ys.map Value.string)[j]? = some u → w.cell? (ad.add j) = some u := by
  intro hm
  obtain ⟨b, off, rfl, _, hc⟩ := RStr.at_ hr hm
  refine ⟨_, rfl, fun j u hu => ?_⟩
  have hj : j < ys.length := by
    rcases Nat.lt_or_ge j ys.length with h | h
    · exact h
    · rw [List.getElem?_eq_none (by simpa using h)] at hu; cases hu
  rw [List.getElem?_map, List.getElem?_eq_getElem hj] at hu
  have e : (⟨b, off, none⟩ : Addr).add j = ⟨b, off + j, none⟩ := by unfold Addr.add; split <;> simp_all
  rw [e, (hc j (by rw [← hr.1]; exact hj)).1, nth_eq hj]
  exact hu
theorem news_int {w : World} {lo m : Nat} {A : Option Addr} {ys : List Int} (hr : RInt w lo A m ys) : 0 < m → ∃ ad, A = some ad ∧ ∀ j u, (ys.map (Value.int .i64))[j]? = some u → w.cell? (ad.add j) = some u := by
  intro hm
  obtain ⟨b, off, rfl, _, hc⟩ := RInt.at_ hr hm
  refine ⟨_, rfl, fun j u hu => ?_⟩
  have hj : j < ys.length := by
    rcases Nat.lt_or_ge j ys.length with h | h
    · exact h
    · rw [List.getElem?_eq_none (by simpa using h)] at hu; cases hu
  rw [List.getElem?_map, List.getElem?_eq_getElem hj] at hu
  have e : (⟨b, off, none⟩ : Addr).add j = ⟨b, off + j, none⟩ := by unfold Addr.add; split <;> simp_all
  rw [e, (hc j (by rw [← hr.1]; exact hj)).1, nth_eq hj]
  exact hu

/-- 'out = append(out, names...)'. -/
theorem apps_str {w : World} {ops : Array Oper} {rest : List Oper} {o : Oper} {a : Act} {Q : Exit → Act → World → Prop} (w0 : World) (v : Value) (n : Nat) (cs : List Str) (lo : Nat) (A : Option Addr) (m c : Nat) (ys : List Str) (hown : Own 9 1 w0 w v n (cs.map Value.string))
    (hr : RStr w lo A m ys) (hgd : o.guard = none) (l x : Operand) (ho : o.op = .call { callee := .builtin .append, args := #[l, x], argTypes := #[23, 23] })
    (hs : a.eval l = v) (hx : a.eval x = .slice A m c) (hn : n + m ≤ 4194304)
    (h : ∀ v' w', Own 9 1 w0 w' v' (n + m) ((cs ++ ys).map Value.string) → w.grownBy w' v.ownBlock → wpList Tryd.prog ops Q rest (a.put o.dst v') w') : wpList Tryd.prog ops Q (o :: rest) a w :=
  wpList_plain hgd fun _ hK => wappl 23 9 1 16 _ Tryd.underlying23 info_str rfl (by omega) (by omega) w0.heap.size v n _ (ys.map Value.string) A m c hown.row l x ho hs hx (by rw [List.length_map, hr.1]; omega) (news_str hr) (by simp [Value.oneCell']) hn hown.below.size
    fun v' w' h2 h3 _ => hK _ _ (h v' w' (hown.next (by rw [List.map_append]; exact h2) h3) h3)
theorem apps_int {w : World} {ops : Array Oper} {rest : List Oper} {o : Oper} {a : Act} {Q : Exit → Act → World → Prop} (w0 : World) (v : Value) (n : Nat) (cs : List Int) (lo : Nat) (A : Option Addr) (m c : Nat) (ys : List Int) (hown : Own 3 1 w0 w v n (cs.map (Value.int .i64)))
    (hr : RInt w lo A m ys) (hgd : o.guard = none) (l x : Operand) (ho : o.op = .call { callee := .builtin .append, args := #[l, x], argTypes := #[83, 83] })
    (hs : a.eval l = v) (hx : a.eval x = .slice A m c) (hn : n + m ≤ 4194304)
    (h : ∀ v' w', Own 3 1 w0 w' v' (n + m) ((cs ++ ys).map (Value.int .i64)) → w.grownBy w' v.ownBlock → wpList Tryd.prog ops Q rest (a.put o.dst v') w') : wpList Tryd.prog ops Q (o :: rest) a w :=
  wpList_plain hgd fun _ hK => wappl 83 3 1 8 _ Tryd.underlying83 info_int rfl (by omega) (by omega) w0.heap.size v n _ (ys.map (Value.int .i64)) A m c hown.row l x ho hs hx (by rw [List.length_map, hr.1]; omega) (news_int hr) (by simp [Value.oneCell']) hn hown.below.size
    fun v' w' h2 h3 _ => hK _ _ (h v' w' (hown.next (by rw [List.map_append]; exact h2) h3) h3)
end Go.Proofs.YthdfefgianokgaaDoor

/- Names and lists of names: the leaves. -/
namespace Go.Proofs.YthdfefgianokgaaDoor
open Go.RowKit

theorem l6In_any (n lo hi : Int) (w : World) :
    Calls Tryd.prog 71 #[.int .i64 n, .int .i64 lo, .int .i64 hi] w fun e w' => e = .returned (.bool (inB n lo hi)) ∧ w = w' := by
  by_cases h : lo ≤ n
  all_goals
    go_enter Tryd.func71, Tryd.ntmps71
    go_wp2
    go_ret
    exact ⟨by simp [inB, *] <;> omega, rfl⟩

theorem name_tail (s : Str) (k : Nat) (h : k < s.size) : s.data.toList.take (k + 1) = s.data.toList.take k ++ [s[k]] := by
  rw [List.take_succ_eq_append_getElem (by simpa using h)]; rfl
theorem name_bad (s : Str) (k : Nat) (h : k < s.size) (hb : lowB s[k] = false) : nameB s = false := by
  unfold nameB
  have : s.data.toList.all lowB = false := by
    rw [List.all_eq_false]
    exact ⟨s[k], by exact Array.mem_toList_iff.2 (Array.getElem_mem h), by simp [hb]⟩
  rw [this, Bool.and_false]
theorem name_good (s : Str) (k : Nat) (h : s.size ≤ k) (hb : (s.data.toList.take k).all lowB = true) : nameB s = inB s.size 1 5 := by
  unfold nameB inB
  rw [List.take_of_length_le (by simpa using h)] at hb
  rw [hb, Bool.and_true]

theorem nameS_any (s : Str) (w : World) (hs : s.size ≤ maxLen) : Calls Tryd.prog 57 #[.string s] w fun e w' => e = .returned (.bool (nameB s)) ∧ w = w' := by
  unfold maxLen at hs
  go_enter Tryd.func57, Tryd.ntmps57
  go_wp2
  go_loop [3] (fun i => ∃ k : Nat, k ≤ s.size ∧ i = .int .i64 k ∧ (s.data.toList.take k).all lowB = true) (fun i => s.size - (intOf i).toNat)
  case atStart => exact ⟨0, Nat.zero_le _, rfl, by simp⟩
  case round =>
    obtain ⟨k, hk, rfl, hp⟩ := hrel
    have HP := Lib.hid hp; clear hp
    by_cases hlt : k < s.size
    · have HT := Lib.hid (name_tail s k hlt)
      by_cases h1 : 97 ≤ (s[k].toNat : Int)
      · by_cases h2 : (s[k].toNat : Int) ≤ 122
        · go_wp2
          go_round
          case rel => exact ⟨k + 1, by omega, by go_num, by rw [HT.out, List.all_append, HP.out]; simp [lowB]; omega⟩
          case measure => simp [intOf]; omega
        · go_wp2
          go_ret
          exact ⟨ret_b (name_bad s k hlt (by simp [lowB]; omega)).symm, rfl⟩
      · go_wp2
        go_ret
        exact ⟨ret_b (name_bad s k hlt (by simp [lowB]; omega)).symm, rfl⟩
    · go_wp2_with (go_at_call 71; refine (l6In_any _ _ _ _).mono ?_; rintro e w' ⟨rfl, rfl⟩)
      go_ret
      exact ⟨ret_b (name_good s k (by omega) HP.out).symm, rfl⟩

theorem nameI_any (s : Str) (w : World) (hs : s.size ≤ maxLen) : Calls Tryd.prog 42 #[.string s] w fun e w' => e = .returned (.bool (nameB s)) ∧ w = w' := by
  unfold maxLen at hs
  by_cases hz : 1 ≤ (s.size : Int)
  · by_cases hz2 : (s.size : Int) ≤ 5
    · go_enter Tryd.func42, Tryd.ntmps42
      go_wp2
      go_loop [14] (fun i => ∃ k : Nat, k ≤ s.size ∧ i = .int .i64 k ∧ (s.data.toList.take k).all lowB = true) (fun i => s.size - (intOf i).toNat)
      case atStart => exact ⟨0, Nat.zero_le _, rfl, by simp⟩
      case round =>
        obtain ⟨k, hk, rfl, hp⟩ := hrel
        have HP := Lib.hid hp; clear hp
        by_cases hlt : k < s.size
        · have HT := Lib.hid (name_tail s k hlt)
          by_cases h1 : 97 ≤ (s[k].toNat : Int)
          · by_cases h2 : (s[k].toNat : Int) ≤ 122
            · go_wp2
              go_round
              case rel => exact ⟨k + 1, by omega, by go_num, by rw [HT.out, List.all_append, HP.out]; simp [lowB]; omega⟩
              case measure => simp [intOf]; omega
            · go_wp2
              go_ret
              exact ⟨ret_b (name_bad s k hlt (by simp [lowB]; omega)).symm, rfl⟩
          · go_wp2
            go_ret
            exact ⟨ret_b (name_bad s k hlt (by simp [lowB]; omega)).symm, rfl⟩
        · go_wp2
          go_ret
          exact ⟨ret_b (by rw [name_good s k (by omega) HP.out]; simp [inB]; omega), rfl⟩
    · go_enter Tryd.func42, Tryd.ntmps42
      go_wp2
      go_ret
      exact ⟨by simp [nameB]; omega, rfl⟩
  · go_enter Tryd.func42, Tryd.ntmps42
    go_wp2
    go_ret
    exact ⟨by simp [nameB]; omega, rfl⟩

/-! ### Index, Contains, l1At, l1Have, NamesHave -/
theorem index_any (A : Option Addr) (n c : Nat) (xs : List Str) (s : Str) (lo : Nat) (w : World) (hr : RStr w lo A n xs) (hn : n ≤ 1048576) :
    Calls Tryd.prog 64 #[.slice A n c, .string s] w fun e w' => e = .returned (.int .i64 (idxI xs s)) ∧ w = w' := by
  have HR := Lib.hid hr; clear hr
  go_enter Tryd.func64, Tryd.ntmps64
  go_wp2
  go_loop [8] (fun i => ∃ k : Nat, k ≤ n ∧ i = .int .i64 k ∧ ∀ j, j < k → nth xs j ≠ s) (fun i => n - (intOf i).toNat)
  case atStart => exact ⟨0, Nat.zero_le _, rfl, fa_zero⟩
  case round =>
    obtain ⟨k, hk, rfl, hp⟩ := hrel
    have HP := Lib.hid hp; clear hp
    by_cases hlt : k < n
    · obtain ⟨b, off, rfl, _, hc⟩ := HR.out.at_ hlt
      obtain ⟨c1, _⟩ := hc k hlt
      clear hc
      by_cases he : s = nth xs k
      · have HE := Lib.hid he; clear he
        have hq := seq_t HE.out
        go_wp2
        go_ret
        exact ⟨ret_i (idxI_at HP.out (HR.out.1 ▸ hlt) HE.out.symm).symm, rfl⟩
      · have HE := Lib.hid he; clear he
        have hq := seq_f HE.out
        go_wp2
        go_round
        case rel => exact ⟨k + 1, by omega, by go_num, fa_succ HP.out (Ne.symm HE.out)⟩
        case measure => simp [intOf]; omega
    · go_wp2
      go_ret
      exact ⟨ret_i (idxI_none (fun j hj => HP.out j (by have := HR.out.1; omega))).symm, rfl⟩

theorem l1At_any (A : Option Addr) (n c : Nat) (xs : List Str) (s : Str) (lo : Nat) (w : World) (hr : RStr w lo A n xs) (hn : n ≤ 1048576) :
    Calls Tryd.prog 58 #[.slice A n c, .string s] w fun e w' => e = .returned (.int .i64 (idxI xs s)) ∧ w = w' := by
  have HR := Lib.hid hr; clear hr
  go_enter Tryd.func58, Tryd.ntmps58
  go_wp2
  go_loop [5] (fun i => ∃ k : Nat, k ≤ n ∧ i = .int .i64 k ∧ ∀ j, j < k → nth xs j ≠ s) (fun i => n - (intOf i).toNat)
  case atStart => exact ⟨0, Nat.zero_le _, rfl, fa_zero⟩
  case round =>
    obtain ⟨k, hk, rfl, hp⟩ := hrel
    have HP := Lib.hid hp; clear hp
    by_cases hlt : k < n
    · obtain ⟨b, off, rfl, _, hc⟩ := HR.out.at_ hlt
      obtain ⟨c1, _⟩ := hc k hlt
      clear hc
      by_cases he : nth xs k = s
      · have HE := Lib.hid he; clear he
        have hq := seq_t HE.out
        go_wp2
        go_ret
        exact ⟨ret_i (idxI_at HP.out (HR.out.1 ▸ hlt) HE.out).symm, rfl⟩
      · have HE := Lib.hid he; clear he
        have hq := seq_f HE.out
        go_wp2
        go_round
        case rel => exact ⟨k + 1, by omega, by go_num, fa_succ HP.out HE.out⟩
        case measure => simp [intOf]; omega
    · go_wp2
      go_ret
      exact ⟨ret_i (idxI_none (fun j hj => HP.out j (by have := HR.out.1; omega))).symm, rfl⟩

theorem contains_any (A : Option Addr) (n c : Nat) (xs : List Str) (s : Str) (lo : Nat) (w : World) (hr : RStr w lo A n xs) (hn : n ≤ 1048576) :
    Calls Tryd.prog 44 #[.slice A n c, .string s] w fun e w' => e = .returned (.bool (hasB xs s)) ∧ w = w' := by
  have HR := Lib.hid hr; clear hr
  go_enter Tryd.func44, Tryd.ntmps44
  go_wp2_with (go_at_call 64; refine (index_any _ _ _ xs s lo _ HR.out hn).mono ?_; rintro e w' ⟨rfl, rfl⟩)
  go_ret
  exact ⟨ret_b (hasB_idx xs s), rfl⟩

theorem l1Have_any (A B : Option Addr) (n c m d : Nat) (xs ys : List Str) (lo lo' : Nat) (w : World) (hr : RStr w lo A n xs) (hn : n ≤ 1048576) (hr' : RStr w lo' B m ys) (hm : m ≤ 1048576) :
    Calls Tryd.prog 99 #[.slice A n c, .slice B m d] w fun e w' => e = .returned (.bool (haveB xs ys)) ∧ w = w' := by
  have HX := Lib.hid hr; clear hr
  have HR := Lib.hid hr'; clear hr'
  go_enter Tryd.func99, Tryd.ntmps99
  go_wp2
  go_loop [5] (fun i => ∃ k : Nat, k ≤ m ∧ i = .int .i64 k ∧ ∀ j, j < k → hasB xs (nth ys j) = true) (fun i => m - (intOf i).toNat)
  case atStart => exact ⟨0, Nat.zero_le _, rfl, fa_zero⟩
  case round =>
    obtain ⟨k, hk, rfl, hp⟩ := hrel
    have HP := Lib.hid hp; clear hp
    by_cases hlt : k < m
    · obtain ⟨b, off, rfl, _, hc⟩ := HR.out.at_ hlt
      obtain ⟨c1, _⟩ := hc k hlt
      clear hc
      by_cases he : hasB xs (nth ys k) = true
      · have HE := Lib.hid he; clear he
        have hq := idx_pos HE.out
        go_wp2_with (go_at_call 58; refine (l1At_any _ _ _ xs _ lo _ HX.out hn).mono ?_; rintro e w' ⟨rfl, rfl⟩)
        go_round
        case rel => exact ⟨k + 1, by omega, by go_num, fa_succ HP.out HE.out⟩
        case measure => simp [intOf]; omega
      · have HE := Lib.hid (bf he); clear he
        have hq := idx_neg HE.out
        go_wp2_with (go_at_call 58; refine (l1At_any _ _ _ xs _ lo _ HX.out hn).mono ?_; rintro e w' ⟨rfl, rfl⟩)
        go_ret
        exact ⟨ret_b (allN_false (j := k) (HR.out.1 ▸ hlt) HE.out).symm, rfl⟩
    · go_wp2_with fail
      go_ret
      exact ⟨ret_b (allN_true (fun j hj => HP.out j (by have := HR.out.1; omega))).symm, rfl⟩

theorem namesHave_any (A B : Option Addr) (n c m d : Nat) (xs ys : List Str) (lo lo' : Nat) (w : World) (hr : RStr w lo A n xs) (hn : n ≤ 1048576) (hr' : RStr w lo' B m ys) (hm : m ≤ 1048576) :
    Calls Tryd.prog 66 #[.slice A n c, .slice B m d] w fun e w' => e = .returned (.bool (haveB xs ys)) ∧ w = w' := by
  have HX := Lib.hid hr; clear hr
  have HR := Lib.hid hr'; clear hr'
  go_enter Tryd.func66, Tryd.ntmps66
  go_wp2
  go_loop [9] (fun i => ∃ k : Nat, k ≤ m ∧ i = .int .i64 k ∧ ∀ j, j < k → hasB xs (nth ys j) = true) (fun i => m - (intOf i).toNat)
  case atStart => exact ⟨0, Nat.zero_le _, rfl, fa_zero⟩
  case round =>
    obtain ⟨k, hk, rfl, hp⟩ := hrel
    have HP := Lib.hid hp; clear hp
    by_cases hlt : k < m
    · obtain ⟨b, off, rfl, _, hc⟩ := HR.out.at_ hlt
      obtain ⟨c1, _⟩ := hc k hlt
      clear hc
      by_cases he : hasB xs (nth ys k) = true
      · go_wp2_with (go_at_call 44; refine (contains_any _ _ _ xs _ lo _ HX.out hn).mono ?_; rintro e w' ⟨rfl, rfl⟩)
        go_round
        case rel => exact ⟨k + 1, by omega, by go_num, fa_succ HP.out he⟩
        case measure => simp [intOf]; omega
      · have he := (bf he)
        go_wp2_with (go_at_call 44; refine (contains_any _ _ _ xs _ lo _ HX.out hn).mono ?_; rintro e w' ⟨rfl, rfl⟩)
        go_ret
        exact ⟨ret_b (allN_false (j := k) (HR.out.1 ▸ hlt) he).symm, rfl⟩
    · go_wp2_with fail
      go_ret
      exact ⟨ret_b (allN_true (fun j hj => HP.out j (by have := HR.out.1; omega))).symm, rfl⟩

/-! ### Equal lists -/
theorem sameTexts_any (A B : Option Addr) (n c m d : Nat) (xs ys : List Str) (lo lo' : Nat) (w : World) (hr : RStr w lo A n xs) (hn : n ≤ 1048576) (hr' : RStr w lo' B m ys) (hm : m ≤ 1048576) :
    Calls Tryd.prog 35 #[.slice A n c, .slice B m d] w fun e w' => e = .returned (.bool (eqB xs ys)) ∧ ∃ k, w' = w.drewN k := by
  have HX := Lib.hid hr; clear hr
  have HY := Lib.hid hr'; clear hr'
  by_cases hl : n = m
  · subst hl
    go_enter Tryd.func35, Tryd.ntmps35
    go_wp2
    go_loopw [5] (fun i wr => ∃ k q : Nat, k ≤ n ∧ i = .int .i64 k ∧ wr = w.drewN q ∧ ∀ j, j < k → nth xs j = nth ys j) (fun i _ => n - (intOf i).toNat)
    case atStart => exact ⟨0, 0, Nat.zero_le _, rfl, rfl, fa_zero⟩
    case round =>
      obtain ⟨k, q, hk, rfl, rfl, hp⟩ := hrel
      have HP := Lib.hid hp; clear hp
      by_cases hlt : k < n
      · obtain ⟨b, off, rfl, _, hc⟩ := HX.out.at_ hlt
        obtain ⟨c1, _⟩ := hc k hlt
        clear hc
        obtain ⟨b', off', rfl, _, hc⟩ := HY.out.at_ hlt
        obtain ⟨c2, _⟩ := hc k hlt
        clear hc
        by_cases he : nth xs k = nth ys k
        · have HE := Lib.hid he; clear he
          have hq := seq_t HE.out
          go_wp2_with fail
          go_quiet (fail)
          go_wp2_with fail
          go_roundw
          case rel => exact ⟨k + 1, _, by omega, by go_num, rfl, fa_succ HP.out HE.out⟩
          case measure => simp [intOf]; omega
        · have HE := Lib.hid he; clear he
          have hq := seq_f HE.out
          go_wp2_with fail
          go_quiet (fail)
          go_wp2_with fail
          go_ret
          exact ⟨ret_b (eqB_at HE.out).symm, _, World.drewN_drewN _ _ _⟩
      · go_wp2_with fail
        go_ret
        exact ⟨ret_b (eqB_all (HX.out.1.trans HY.out.1.symm) (fun j hj => HP.out j (by have := HX.out.1; omega))).symm, _, rfl⟩
  · have hq : ((n : Int) == (m : Int)) = false := beq_eq_false_iff_ne.2 (by omega)
    go_enter Tryd.func35, Tryd.ntmps35
    go_wp2
    go_ret
    exact ⟨ret_b (eqB_len (by rw [HX.out.1, HY.out.1]; exact hl)).symm, 0, rfl⟩
end Go.Proofs.YthdfefgianokgaaDoor

/- Guards. -/
namespace Go.Proofs.YthdfefgianokgaaDoor
open Go.RowKit

def varsB (vs : List Int) : Bool := allN vs.length (fun j => inB (nth vs j) 0 99) && decide (vs.length = 4)

def okG (xs : List Guard) : Prop := xs.length ≤ 1048576 ∧ ∀ j, j < xs.length → (nth xs j).name.size ≤ maxLen

theorem guard_ways (xs : List Guard) (k : Nat) : nameB (nth xs k).name = false ∨ (nameB (nth xs k).name = true ∧ (inB (nth xs k).var 0 3 = false ∨ (inB (nth xs k).var 0 3 = true ∧ (inB (nth xs k).least 0 99 = false ∨ (inB (nth xs k).least 0 99 = true ∧ k ≤ 0) ∨ (inB (nth xs k).least 0 99 = true ∧ 0 < k))))) := by
  cases nameB (nth xs k).name <;> cases inB (nth xs k).var 0 3 <;> cases inB (nth xs k).least 0 99 <;> simp <;> omega

theorem guardsB_bad {xs : List Guard} {k : Nat} (hk : k < xs.length) (h : guardB xs k = false) : guardsB xs = false := by
  unfold guardsB; rw [allN_false hk h, Bool.false_and]
theorem guardsB_end {xs : List Guard} {n : Nat} (hl : xs.length = n) (h : ∀ j, j < n → guardB xs j = true) : guardsB xs = decide ((n : Int) ≤ 8) := by
  subst hl; unfold guardsB; rw [allN_true h, Bool.true_and]

theorem guard_waysI (xs : List Guard) (k : Nat) : nameB (nth xs k).name = false ∨ (nameB (nth xs k).name = true ∧ (
    decide ((nth xs k).var < 0) = true ∨ (decide ((nth xs k).var < 0) = false ∧ (
    decide (4 ≤ (nth xs k).var) = true ∨ (decide (4 ≤ (nth xs k).var) = false ∧ (
    inB (nth xs k).least 0 99 = false ∨ (inB (nth xs k).least 0 99 = true ∧ k = 0) ∨ (inB (nth xs k).least 0 99 = true ∧ 0 < k))))))) := by
  cases nameB (nth xs k).name <;> cases decide ((nth xs k).var < 0) <;> cases decide (4 ≤ (nth xs k).var) <;> cases inB (nth xs k).least 0 99 <;> simp <;> omega

end Go.Proofs.YthdfefgianokgaaDoor

/- Flows: what is ready, in which order; which flows are valid. No program in sight. -/
namespace Go.Proofs.YthdfefgianokgaaDoor
open Go.RowKit

structure Flow where
  ver : Int
  steps : List Step
  deriving Inhabited

def okS (xs : List Str) : Prop := xs.length ≤ 1048576 ∧ ∀ j, j < xs.length → (nth xs j).size ≤ maxLen
def okStep (s : Step) : Prop := s.name.size ≤ maxLen ∧ okS s.after
def stepB (s : Step) : Bool := ascB s.after && nameB s.name && !hasB s.after s.name && decide (s.after.length ≤ 4)
def okSteps (ss : List Step) : Prop := ss.length ≤ 1048576 ∧ ∀ j, j < ss.length → okStep (nth ss j)

def namesOf (ss : List Step) : List Str := ss.map (·.name)
theorem namesOf_len (ss : List Step) : (namesOf ss).length = ss.length := by simp [namesOf]
theorem namesOf_at {ss : List Step} {k : Nat} (hk : k < ss.length) : nth (namesOf ss) k = (nth ss k).name := by
  rw [nth_eq (by rw [namesOf_len]; exact hk), nth_eq hk]; simp [namesOf]
theorem namesOf_ok {ss : List Step} (h : okSteps ss) : okS (namesOf ss) :=
  ⟨by rw [namesOf_len]; exact h.1, fun j hj => by rw [namesOf_len] at hj; rw [namesOf_at hj]; exact (h.2 j hj).1⟩

/-- A step is not done, but all that it comes after is. -/
def rdyB (done : List Str) (s : Step) : Bool := !hasB done s.name && haveB done s.after
def rdyTo (ss : List Step) (done : List Str) (k : Nat) : List Str := ((ss.take k).filter (rdyB done)).map (·.name)
def rdyL (ss : List Step) (done : List Str) : List Str := (ss.filter (rdyB done)).map (·.name)
theorem rdyTo_yes {ss : List Step} {done : List Str} {k : Nat} (hk : k < ss.length) (h : rdyB done (nth ss k) = true) : rdyTo ss done (k + 1) = rdyTo ss done k ++ [(nth ss k).name] := by
  unfold rdyTo; rw [take_nth hk, List.filter_append, List.map_append]; simp [h]
theorem rdyTo_no {ss : List Step} {done : List Str} {k : Nat} (hk : k < ss.length) (h : rdyB done (nth ss k) = false) : rdyTo ss done (k + 1) = rdyTo ss done k := by
  unfold rdyTo; rw [take_nth hk, List.filter_append, List.map_append]; simp [h]
theorem rdyTo_len (ss : List Step) (done : List Str) (k : Nat) : (rdyTo ss done k).length ≤ k := by
  unfold rdyTo; rw [List.length_map]
  exact Nat.le_trans (List.length_filter_le _ _) (List.length_take_le _ _)
theorem rdyTo_all {ss : List Step} {done : List Str} {k : Nat} (hk : ss.length ≤ k) : rdyTo ss done k = rdyL ss done := by
  unfold rdyTo rdyL; rw [List.take_of_length_le hk]
theorem rdyL_len (ss : List Step) (done : List Str) : (rdyL ss done).length ≤ ss.length := by
  unfold rdyL; rw [List.length_map]; exact List.length_filter_le _ _
theorem rdyL_mem {ss : List Step} {done : List Str} {x : Str} : x ∈ rdyL ss done ↔ ∃ s ∈ ss, rdyB done s = true ∧ s.name = x := by
  unfold rdyL; simp [List.mem_map, List.mem_filter, and_assoc]
theorem rdyL_new {ss : List Step} {done : List Str} {x : Str} (h : x ∈ rdyL ss done) : x ∉ done ∧ x ∈ namesOf ss := by
  obtain ⟨s, hs, hr, rfl⟩ := rdyL_mem.1 h
  unfold rdyB at hr
  simp only [Bool.and_eq_true, Bool.not_eq_true'] at hr
  exact ⟨hasB_false.1 hr.1, List.mem_map.2 ⟨s, hs, rfl⟩⟩

/-- The first step that is ready. -/
theorem rdyL_first {ss : List Step} {done : List Str} {k : Nat} (hp : ∀ j, j < k → rdyB done (nth ss j) = false) (hk : k < ss.length) (h : rdyB done (nth ss k) = true) : ∃ r, rdyL ss done = (nth ss k).name :: r := by
  have e : rdyL ss done = rdyTo ss done k ++ ((ss.drop k).filter (rdyB done)).map (·.name) := by
    unfold rdyL rdyTo
    rw [← List.map_append, ← List.filter_append, List.take_append_drop]
  have e2 : ss.drop k = nth ss k :: ss.drop (k + 1) := by rw [nth_eq hk]; exact List.drop_eq_getElem_cons hk
  have e3 : rdyTo ss done k = [] := by
    unfold rdyTo
    rw [List.map_eq_nil_iff, List.filter_eq_nil_iff]
    intro a ha
    obtain ⟨j, hj, rfl⟩ := nth_of_mem ha
    rw [List.length_take] at hj
    have e4 : nth (ss.take k) j = nth ss j := by rw [nth_eq (by rw [List.length_take]; exact hj), nth_eq (by omega), List.getElem_take]
    rw [e4, hp j (by omega)]; simp
  rw [e, e3, e2, List.filter_cons_of_pos h, List.map_cons]
  exact ⟨_, rfl⟩
theorem rdyL_none {ss : List Step} {done : List Str} (hp : ∀ j, j < ss.length → rdyB done (nth ss j) = false) : rdyL ss done = [] := by
  unfold rdyL
  rw [List.map_eq_nil_iff, List.filter_eq_nil_iff]
  intro a ha
  obtain ⟨j, hj, rfl⟩ := nth_of_mem ha
  rw [hp j hj]; simp

/-- One step more, the first one that is ready. -/
def ordStep (ss : List Step) (o : List Str) : List Str := match rdyL ss o with
  | [] => o
  | x :: _ => o ++ [x]
def ordTo (ss : List Step) : Nat → List Str
  | 0 => []
  | k + 1 => ordStep ss (ordTo ss k)
def ordL (ss : List Step) : List Str := ordTo ss ss.length
theorem ordStep_nil {ss : List Step} {o : List Str} (h : rdyL ss o = []) : ordStep ss o = o := by unfold ordStep; rw [h]
theorem ordStep_cons {ss : List Step} {o : List Str} {x : Str} {r : List Str} (h : rdyL ss o = x :: r) : ordStep ss o = o ++ [x] := by unfold ordStep; rw [h]
theorem ordTo_len (ss : List Step) : ∀ k, (ordTo ss k).length ≤ k
  | 0 => by simp [ordTo]
  | k + 1 => by
    have := ordTo_len ss k
    rw [ordTo]
    cases h : rdyL ss (ordTo ss k) with
    | nil => rw [ordStep_nil h]; omega
    | cons x r => rw [ordStep_cons h, List.length_append]; simp; omega
theorem ordTo_nodup (ss : List Step) : ∀ k, (ordTo ss k).Nodup ∧ ∀ x ∈ ordTo ss k, x ∈ namesOf ss
  | 0 => by simp [ordTo]
  | k + 1 => by
    obtain ⟨h1, h2⟩ := ordTo_nodup ss k
    rw [ordTo]
    cases h : rdyL ss (ordTo ss k) with
    | nil => rw [ordStep_nil h]; exact ⟨h1, h2⟩
    | cons x r =>
      rw [ordStep_cons h]
      obtain ⟨h3, h4⟩ := rdyL_new (ss := ss) (done := ordTo ss k) (x := x) (by rw [h]; simp)
      refine ⟨List.nodup_append.2 ⟨h1, by simp, by intro a ha b hb; simp at hb; subst hb; rintro rfl; exact h3 ha⟩, fun y hy => ?_⟩
      rcases List.mem_append.1 hy with h5 | h5
      · exact h2 y h5
      · simp at h5; subst h5; exact h4
theorem nodup_le {α : Type} [DecidableEq α] : ∀ {xs ys : List α}, xs.Nodup → (∀ x ∈ xs, x ∈ ys) → xs.length ≤ ys.length
  | [], _, _, _ => by simp
  | x :: xs, ys, hn, hs => by
    have hx := hs x (by simp)
    have h1 := List.nodup_cons.1 hn
    have : xs.length ≤ (ys.erase x).length := nodup_le h1.2 (fun y hy => (List.mem_erase_of_ne (by rintro rfl; exact h1.1 hy)).2 (hs y (by simp [hy])))
    rw [List.length_erase_of_mem hx] at this
    have h2 : 0 < ys.length := List.length_pos_of_mem hx
    simp
    omega
theorem ordTo_len2 (ss : List Step) (k : Nat) : (ordTo ss k).length ≤ ss.length := by
  obtain ⟨h1, h2⟩ := ordTo_nodup ss k
  have := nodup_le h1 h2
  rwa [namesOf_len] at this
theorem ordTo_stop {ss : List Step} {k : Nat} (h : rdyL ss (ordTo ss k) = []) : ∀ m, k ≤ m → ordTo ss m = ordTo ss k := by
  intro m hm
  obtain ⟨d, rfl⟩ : ∃ d, m = k + d := ⟨m - k, by omega⟩
  induction d with
  | zero => rfl
  | succ d ih =>
    have := ih (by omega)
    show ordStep ss (ordTo ss (k + d)) = _
    rw [this, ordStep_nil h]
/-- Where all rounds up to now had a step ready, there are as many as rounds. -/
theorem ordTo_end {ss : List Step} {k : Nat} (hl : (ordTo ss k).length = k) (h : rdyL ss (ordTo ss k) = []) : ordTo ss k = ordL ss :=
  (ordTo_stop h ss.length (by have := ordTo_len2 ss k; omega)).symm

def stepAt (ss : List Step) (j : Nat) : Bool :=
  stepB (nth ss j) && (decide (j = 0) || strLt (nth ss (j - 1)).name (nth ss j).name) && haveB (namesOf ss) (nth ss j).after
def flowB (f : Flow) : Bool :=
  allN f.steps.length (stepAt f.steps) && inB f.ver 1 99 && inB f.steps.length 1 8 && decide ((ordL f.steps).length = f.steps.length)

theorem flowB_iff {f : Flow} : flowB f = true ↔ (∀ j, j < f.steps.length → stepAt f.steps j = true) ∧ (1 ≤ f.ver ∧ f.ver ≤ 99) ∧ (1 ≤ f.steps.length ∧ f.steps.length ≤ 8) ∧ (ordL f.steps).length = f.steps.length := by
  unfold flowB inB
  simp only [Bool.and_eq_true, decide_eq_true_eq, allN_iff]
  constructor
  · rintro ⟨⟨⟨h1, h2⟩, h3⟩, h4⟩
    exact ⟨h1, h2, by omega, h4⟩
  · rintro ⟨h1, h2, h3, h4⟩
    exact ⟨⟨⟨h1, h2⟩, by omega⟩, h4⟩
end Go.Proofs.YthdfefgianokgaaDoor

/- Rows of steps of the call's own. -/
namespace Go.Proofs.YthdfefgianokgaaDoor
open Go.RowKit

theorem On.drew {g : Nat} {w w1 : World} (h : On g w w1) : On g w w1.drew := ⟨h.os, h.tape, h.output, h.size, h.block⟩
theorem set3 {w : World} {b : Nat} {a0 a1 a2 u0 u1 u2 : Value} {t : TypeId} {fr : Nat × Nat} (h : w.heap[b]? = some (.cells #[a0, a1, a2] t fr)) :
    (((w.setCell ⟨b, 0, none⟩ u0).setCell ⟨b, 1, none⟩ u1).setCell ⟨b, 2, none⟩ u2).heap[b]? = some (.cells #[u0, u1, u2] t fr) := by
  simp [World.setCell, Array.getElem?_modify, h]
theorem set3_ne {w : World} {b b' : Nat} {u0 u1 u2 : Value} {x : Obj} (h : w.heap[b']? = some x) (hne : b' ≠ b) :
    (((w.setCell ⟨b, 0, none⟩ u0).setCell ⟨b, 1, none⟩ u1).setCell ⟨b, 2, none⟩ u2).heap[b']? = some x :=
  (Below.heap_setCell _ _ _ _ hne).trans ((Below.heap_setCell _ _ _ _ hne).trans ((Below.heap_setCell _ _ _ _ hne).trans h))
theorem Dr.set3 {T : TypeId} {w0 w : World} {g q b : Nat} {u0 u1 u2 : Value} (h : Dr T w0 g q w) (hb : w0.heap.size ≤ b) (hg : g < b) : Dr T w0 g q (((w.setCell ⟨b, 0, none⟩ u0).setCell ⟨b, 1, none⟩ u1).setCell ⟨b, 2, none⟩ u2) :=
  ((h.set_ hb hg _ _).set_ hb hg _ _).set_ hb hg _ _
theorem sz_push (w : World) (o : Obj) : w.heap.size + 1 = (w.alloc o).heap.size := by simp
theorem sz_set3 (w : World) (b : Nat) (u0 u1 u2 : Value) : w.heap.size = (((w.setCell ⟨b, 0, none⟩ u0).setCell ⟨b, 1, none⟩ u1).setCell ⟨b, 2, none⟩ u2).heap.size := by simp
theorem row_set {w : World} {base b o : Nat} {e t : TypeId} {size : Nat} {v u : Value} {n : Nat} {cs : List Value} {cs' : Array Value} (h : w.ownsRow base e size v n cs) (hb : w.heap[b]? = some (.cells cs' t (0, 0))) (hne : e ≠ t) : (w.setCell ⟨b, o, none⟩ u).ownsRow base e size v n cs :=
  h.kept (row := some b) ⟨rfl, rfl, rfl, by simp, fun k _ hk => Below.heap_setCell _ _ _ _ (by intro e; exact hk (by rw [e]))⟩ (.inr (row_ne h hb hne))
theorem set_at {w : World} {b o : Nat} {cs : Array Value} {t : TypeId} {fr : Nat × Nat} {u : Value} (h : w.heap[b]? = some (.cells cs t fr)) : (w.setCell ⟨b, o, none⟩ u).heap[b]? = some (.cells (cs.setIfInBounds o u) t fr) := by
  simp [World.setCell, Array.getElem?_modify, h]
theorem set31 {w : World} {b : Nat} {a0 a1 a2 u : Value} {t : TypeId} {fr : Nat × Nat} (h : w.heap[b]? = some (.cells #[a0, a1, a2] t fr)) : (w.setCell ⟨b, 1, none⟩ u).heap[b]? = some (.cells #[a0, u, a2] t fr) := set_at h
theorem set21 {w : World} {b : Nat} {a0 a1 u : Value} {t : TypeId} {fr : Nat × Nat} (h : w.heap[b]? = some (.cells #[a0, a1] t fr)) : (w.setCell ⟨b, 1, none⟩ u).heap[b]? = some (.cells #[a0, u] t fr) := set_at h
theorem set20 {w : World} {b : Nat} {a0 a1 u : Value} {t : TypeId} {fr : Nat × Nat} (h : w.heap[b]? = some (.cells #[a0, a1] t fr)) : (w.setCell ⟨b, 0, none⟩ u).heap[b]? = some (.cells #[u, a1] t fr) := set_at h
theorem set_ne {w : World} {b b' o : Nat} {u : Value} {x : Obj} (h : w.heap[b']? = some x) (hne : b' ≠ b) : (w.setCell ⟨b, o, none⟩ u).heap[b']? = some x := (Below.heap_setCell _ _ _ _ hne).trans h
theorem strapp_step {w : World} {ops : Array Oper} {o : Oper} {a : Act} {K : Act → World → Prop} {Q : Exit → Act → World → Prop} {E : Prop} (base : Nat) (v : Value) (n : Nat) (cs : List Str) (b : Nat) (s : Str) (hown : w.ownsRow base 9 1 v n (cs.map Value.string))
    (hgd : o.guard = none) (l r : Operand) (ho : o.op = .call { callee := .builtin .append, args := #[l, r], argTypes := #[23, 23] })
    (hs : a.eval l = v) (hx : a.eval r = .slice (some ⟨b, 0, none⟩) 1 1) (hb : w.heap[b]? = some (.cells #[.string s] 9 (0, 0))) (hn : n ≤ 1048576) (hbase : base ≤ w.heap.size)
    (h : ∀ v' w', w'.ownsRow base 9 1 v' (n + 1) ((cs ++ [s]).map Value.string) → w.grownBy w' v.ownBlock → (v'.ownBlock = v.ownBlock ∨ v'.ownBlock = some w.heap.size) → K (a.put o.dst v') w') :
    if Region.wanted o (yielded ops a.tmps) = true then Oper.wp Tryd.prog o a w K Q else E := by
  have hw : Region.wanted o (yielded ops a.tmps) = true := by simp [Region.wanted, hgd]
  rw [if_pos hw]
  refine wapp 23 9 1 16 _ Tryd.underlying23 info_str rfl (by omega) (by omega) base v n _ [.string s] b hown l r ho hs hx hb rfl ?_ hn hbase ?_
  · intro u hu; simp at hu; subst hu; rfl
  · intro v' w' h1 h2 h3
    exact h v' w' (by rw [List.map_append]; exact h1) h2 h3
theorem Cl.set_ne {w : World} {b o b' o' : Nat} {u v v0 : Value} (h : Cl w b o u) (h0 : Cl w b' o' v0) (hne : u ≠ v0) : Cl (w.setCell ⟨b', o', none⟩ v) b o u := by
  refine h.set_other ?_
  by_cases hb : b = b'
  · right
    intro ho
    subst hb; subst ho
    have := h.1.symm.trans h0.1
    exact hne (Option.some.inj this)
  · exact .inl hb
theorem RStr.set_ne {w : World} {lo hi n b' o' : Nat} {A : Option Addr} {xs : List Str} {v v0 : Value} (h : RH strE w lo hi A n xs) (h0 : Cl w b' o' v0) (hv0 : ∀ s, v0 ≠ .string s) :
    RH strE (w.setCell ⟨b', o', none⟩ v) lo hi A n xs :=
  ⟨h.1, fun hn => by
    obtain ⟨b, off, e, h1, h2, hc⟩ := h.2 hn
    exact ⟨b, off, e, h1, h2, fun k hk => Cl.set_ne (hc k hk) h0 (Ne.symm (hv0 _))⟩⟩

/-- A step at index j is written: its list. -/
theorem RStep.setAfter {w : World} {lo b off n j m d : Nat} {B : Option Addr} {ss : List Step} {ys : List Str} (h : RStep w lo (some ⟨b, off, none⟩) n ss) (hj : j < n) (hs : RStr w lo B m ys) :
    RStep (w.setCell ⟨b, off + j * 3 + 1, none⟩ (.slice B m d)) lo (some ⟨b, off, none⟩) n (ss.set j { nth ss j with after := ys }) := by
  refine ⟨by rw [List.length_set]; exact h.1, fun hn => ?_⟩
  obtain ⟨b', off', e, h1, h2, hc⟩ := h.2 hn
  injection e with e; injection e with e1 e2
  subst e1; subst e2
  refine ⟨b, off, rfl, h1, by simpa using h2, fun k hk => ?_⟩
  obtain ⟨_, ⟨A0, n0, c0, p2, _⟩, _⟩ := hc j hj
  obtain ⟨c1, ⟨A', n', c', c2, c3⟩, c4⟩ := hc k hk
  have hsz : (w.setCell ⟨b, off + j * 3 + 1, none⟩ (.slice B m d)).heap.size = w.heap.size := by simp
  rw [nth_set (by rw [h.1]; exact hj), hsz]
  by_cases hkj : k = j
  · subst hkj
    rw [if_pos rfl]
    exact ⟨c1.set_other (.inr (by show off + k * 3 ≠ _; omega)), ⟨B, m, d, c2.set_same, RStr.set_ne hs p2 (fun s e => by cases e)⟩, c4.set_other (.inr (by show off + k * 3 + 2 ≠ _; omega))⟩
  · rw [if_neg hkj]
    exact ⟨c1.set_other (.inr (by show off + k * 3 ≠ _; omega)), ⟨A', n', c', c2.set_other (.inr (by show off + k * 3 + 1 ≠ _; omega)), RStr.set_ne c3 p2 (fun s e => by cases e)⟩, c4.set_other (.inr (by show off + k * 3 + 2 ≠ _; omega))⟩
/-- A step at index j is written: whether it can be undone. -/
theorem RStep.setUndo {w : World} {lo b off n j : Nat} {ss : List Step} (h : RStep w lo (some ⟨b, off, none⟩) n ss) (hj : j < n) (u : Bool) :
    RStep (w.setCell ⟨b, off + j * 3 + 2, none⟩ (.bool u)) lo (some ⟨b, off, none⟩) n (ss.set j { nth ss j with undo := u }) := by
  refine ⟨by rw [List.length_set]; exact h.1, fun hn => ?_⟩
  obtain ⟨b', off', e, h1, h2, hc⟩ := h.2 hn
  injection e with e; injection e with e1 e2
  subst e1; subst e2
  refine ⟨b, off, rfl, h1, by simpa using h2, fun k hk => ?_⟩
  obtain ⟨_, _, p2⟩ := hc j hj
  obtain ⟨c1, ⟨A', n', c', c2, c3⟩, c4⟩ := hc k hk
  have hsz : (w.setCell ⟨b, off + j * 3 + 2, none⟩ (.bool u)).heap.size = w.heap.size := by simp
  rw [nth_set (by rw [h.1]; exact hj), hsz]
  by_cases hkj : k = j
  · subst hkj
    rw [if_pos rfl]
    exact ⟨c1.set_other (.inr (by show off + k * 3 ≠ _; omega)), ⟨A', n', c', c2.set_other (.inr (by show off + k * 3 + 1 ≠ _; omega)), RStr.set_ne c3 p2 (fun s e => by cases e)⟩, c4.set_same⟩
  · rw [if_neg hkj]
    exact ⟨c1.set_other (.inr (by show off + k * 3 ≠ _; omega)), ⟨A', n', c', c2.set_other (.inr (by show off + k * 3 + 1 ≠ _; omega)), RStr.set_ne c3 p2 (fun s e => by cases e)⟩, c4.set_other (.inr (by show off + k * 3 + 2 ≠ _; omega))⟩

/-- A cell of a number is written. -/
theorem RStep.setInt {w : World} {lo n b o : Nat} {A : Option Addr} {ss : List Step} {k : IntKind} {i : Int} {u : Value} (h : RStep w lo A n ss) (h0 : Cl w b o (.int k i)) : RStep (w.setCell ⟨b, o, none⟩ u) lo A n ss := by
  refine ⟨h.1, fun hn => ?_⟩
  obtain ⟨b', off', e, h1, h2, hc⟩ := h.2 hn
  have hsz : (w.setCell ⟨b, o, none⟩ u).heap.size = w.heap.size := by simp
  refine ⟨b', off', e, h1, by rw [hsz]; exact h2, fun j hj => ?_⟩
  obtain ⟨c1, ⟨A', n', c', c2, c3⟩, c4⟩ := hc j hj
  rw [hsz]
  exact ⟨c1.set_ne h0 (fun e => by cases e), ⟨A', n', c', c2.set_ne h0 (fun e => by cases e), RStr.set_ne c3 h0 (fun s e => by cases e)⟩, c4.set_ne h0 (fun e => by cases e)⟩
/-- A cell below is written. -/
theorem RL.setLow {α : Type} [Inhabited α] {E : Elem α} {w : World} {lo n b o : Nat} {A : Option Addr} {xs : List α} {u : Value} (h : RL E w lo A n xs) (hb : b < lo) : RL E (w.setCell ⟨b, o, none⟩ u) lo A n xs :=
  (h.low.same (w' := w.setCell ⟨b, o, none⟩ u) ⟨fun i h1 _ => Below.heap_setCell w ⟨b, o, none⟩ u i (by intro e; simp at e; omega)⟩).up (by simp)

/-- A list of strings in a block of strings. -/
def SStr (w : World) (base : Nat) (A : Option Addr) (n : Nat) (xs : List Str) : Prop :=
  xs.length = n ∧ (0 < n → ∃ b cs, A = some ⟨b, 0, none⟩ ∧ base ≤ b ∧ w.heap[b]? = some (.cells cs 9 (0, 0)) ∧ ∀ j, j < n → cs[j]? = some (.string (nth xs j)))
theorem SStr.kept {w w' : World} {base n : Nat} {A : Option Addr} {xs : List Str} (h : SStr w base A n xs) (hk : ∀ b cs, base ≤ b → w.heap[b]? = some (.cells cs 9 (0, 0)) → w'.heap[b]? = w.heap[b]?) : SStr w' base A n xs :=
  ⟨h.1, fun hn => by
    obtain ⟨b, cs, e, h1, h2, h3⟩ := h.2 hn
    exact ⟨b, cs, e, h1, (hk b cs h1 h2).trans h2, h3⟩⟩
theorem SStr.on {w w' : World} {base n g : Nat} {A : Option Addr} {xs : List Str} (h : SStr w base A n xs) (ho : On g w w') (hg : g < base) : SStr w' base A n xs :=
  h.kept fun b cs hb hc => ho.block b (heap_lt hc) (by intro e; injection e; omega)
theorem SStr.below {w w' : World} {base n : Nat} {A : Option Addr} {xs : List Str} (h : SStr w base A n xs) (hb : Below w.heap.size w w') : SStr w' base A n xs :=
  h.kept fun b _ _ hc => hb.block b (heap_lt hc)
theorem SStr.mono {w : World} {base base' n : Nat} {A : Option Addr} {xs : List Str} (h : SStr w base A n xs) (hb : base' ≤ base) : SStr w base' A n xs :=
  ⟨h.1, fun hn => by
    obtain ⟨b, cs, e, h1, h2, h3⟩ := h.2 hn
    exact ⟨b, cs, e, by omega, h2, h3⟩⟩
theorem SStr.hat {w : World} {base n : Nat} {A : Option Addr} {xs : List Str} (h : SStr w base A n xs) : RStr w base A n xs :=
  ⟨h.1, fun hn => by
    obtain ⟨b, cs, e, h1, h2, h3⟩ := h.2 hn
    refine ⟨b, 0, e, h1, heap_lt h2, fun k hk => ?_⟩
    have := blk_cl h2 (h3 k hk)
    simpa [strE] using this⟩
theorem own_sstr {w : World} {base : Nat} {v : Value} {n : Nat} {ys : List Str} (h : w.ownsRow base 9 1 v n (ys.map Value.string)) : ∃ A c, v = .slice A n c ∧ SStr w base A n ys := by
  have hl : ys.length = n := by have := h.1; simpa using this
  have hcs := fun g hg => h.cells (g := g) hg
  rcases h.2 with ⟨rfl, h0⟩ | ⟨g, cap, cur, rfl, hb, hg, hnc, hcm, hcs', ht⟩
  · exact ⟨none, 0, by have : n = 0 := by omega
                       subst this; rfl, hl, fun hn => absurd hn (by omega)⟩
  · refine ⟨_, _, rfl, hl, fun _ => ⟨g, cur, rfl, hb, hg, fun j hj => ?_⟩⟩
    have h3 := hcs g rfl j (.string (nth ys j)) (by rw [List.getElem?_map, List.getElem?_eq_getElem (by omega), nth_eq (by omega)]; rfl)
    have e : (⟨g, 0, none⟩ : Addr).add j = ⟨g, j, none⟩ := by unfold Addr.add; split <;> simp_all
    rw [e] at h3
    have h4 : w.cell? ⟨g, j, none⟩ = cur[j]? := by unfold World.cell?; rw [hg]; rfl
    rw [h4] at h3
    exact h3

def pcells (p : Step × Value) : List Value := [.string p.1.name, p.2, .bool p.1.undo]
theorem pcells_len (p : Step × Value) : (pcells p).length = 3 := rfl
/-- A row of steps of the call's own, their lists too. -/
def SRow (w : World) (base : Nat) (v : Value) (n : Nat) (ss : List Step) : Prop :=
  ∃ ps : List (Step × Value), ps.map (·.1) = ss ∧ w.ownsRow base 25 3 v n (ps.flatMap pcells) ∧ ∀ p ∈ ps, ∃ A m c, p.2 = .slice A m c ∧ SStr w base A m p.1.after
theorem SRow.len {w : World} {base n : Nat} {v : Value} {ss : List Step} (h : SRow w base v n ss) : ss.length = n := by
  obtain ⟨ps, rfl, h1, _⟩ := h
  have := h1.1
  rw [flat_len pcells_len] at this
  simp; omega
theorem SRow.kept {w w' : World} {base n : Nat} {v : Value} {ss : List Step} (h : SRow w base v n ss) (hk : ∀ b cs t, base ≤ b → w.heap[b]? = some (.cells cs t (0, 0)) → t = 9 ∨ t = 25 → w'.heap[b]? = w.heap[b]?) : SRow w' base v n ss := by
  obtain ⟨ps, e, h1, h2⟩ := h
  refine ⟨ps, e, ?_, fun p hp => ?_⟩
  · refine ⟨h1.1, ?_⟩
    rcases h1.2 with hn | ⟨g, cap, cur, hv, hb, hg, hr⟩
    · exact .inl hn
    · exact .inr ⟨g, cap, cur, hv, hb, (hk g cur _ hb hg (.inr rfl)).trans hg, hr⟩
  · obtain ⟨A, m, c, e2, h3⟩ := h2 p hp
    exact ⟨A, m, c, e2, h3.kept fun b cs hb hc => hk b cs _ hb hc (.inl rfl)⟩
theorem SRow.on {w w' : World} {base n g : Nat} {v : Value} {ss : List Step} (h : SRow w base v n ss) (ho : On g w w') (hg : g < base) : SRow w' base v n ss :=
  h.kept fun b cs _ hb hc _ => ho.block b (heap_lt hc) (by intro e; injection e; omega)
theorem SRow.below {w w' : World} {base n : Nat} {v : Value} {ss : List Step} (h : SRow w base v n ss) (hb : Below w.heap.size w w') : SRow w' base v n ss :=
  h.kept fun b _ _ _ hc _ => hb.block b (heap_lt hc)
theorem SRow.set {w : World} {base n b o : Nat} {v u : Value} {ss : List Step} {cs : Array Value} {t : TypeId} (h : SRow w base v n ss) (hb : w.heap[b]? = some (.cells cs t (0, 0))) (h1 : t ≠ 9) (h2 : t ≠ 25) :
    SRow (w.setCell ⟨b, o, none⟩ u) base v n ss :=
  h.kept fun b' cs' t' _ hc ht => Below.heap_setCell w ⟨b, o, none⟩ u b' (by
    intro e
    subst e
    rw [hc] at hb
    have := Option.some.inj hb
    injection this with _ e2
    rcases ht with ht | ht <;> subst ht
    · exact h1 e2.symm
    · exact h2 e2.symm)
theorem SRow.made {w : World} {base b : Nat} (hb : base ≤ w.heap.size) (e : b = w.heap.size) : SRow (w.alloc (.cells #[] 25)) base (.slice (some ⟨b, 0, none⟩) 0 0) 0 [] := by
  subst e
  exact ⟨[], rfl, World.ownsRow_made w #[] 0 hb (Nat.zero_le _) rfl, fun p hp => by cases hp⟩
theorem SRow.lt {w : World} {base n b : Nat} {A : Option Addr} {c : Nat} {ss : List Step} (h : SRow w base (.slice A n c) n ss) (hA : (Value.slice A n c).ownBlock = some b) : base ≤ b ∧ b < w.heap.size := by
  obtain ⟨ps, _, h1, _⟩ := h
  exact h1.lt b hA
theorem SRow.ne {w : World} {base n b : Nat} {v : Value} {ss : List Step} {cs : Array Value} {t : TypeId} {fr : Nat × Nat} (h : SRow w base v n ss) (hb : w.heap[b]? = some (.cells cs t fr)) (ht : 25 ≠ t) : v.ownBlock ≠ some b := by
  obtain ⟨ps, _, h1, _⟩ := h
  exact row_ne h1 hb ht
theorem SRow.hat {w : World} {base n : Nat} {v : Value} {ss : List Step} (h : SRow w base v n ss) : ∃ A c, v = .slice A n c ∧ RStep w base A n ss := by
  have hl := h.len
  obtain ⟨ps, rfl, h1, h2⟩ := h
  obtain ⟨A, c, hv, hf⟩ := own_form h1
  refine ⟨A, c, hv, hl, fun hn => ?_⟩
  obtain ⟨b, e1, b1, b2, hc⟩ := hf hn
  rw [List.length_map] at hl
  refine ⟨b, 0, e1, b1, b2, fun k hk => ?_⟩
  have h3 : ∀ i u, i < 3 → (pcells (ps[k]'(by omega)))[i]? = some u → Cl w b (0 + k * 3 + i) u := fun i u hi hu => by
    have e2 := flat_at (α := Step × Value) (f := pcells) pcells_len ps k i (by omega) hi
    rw [nth_eq (by omega)] at e2
    have := hc (k * 3 + i) u (by rw [e2]; exact hu)
    rwa [Nat.zero_add]
  obtain ⟨A', m, c', e2, h4⟩ := h2 (ps[k]'(by omega)) (List.getElem_mem _)
  have e3 : nth (ps.map (·.1)) k = (ps[k]'(by omega)).1 := by rw [nth_eq (by rw [List.length_map]; omega)]; simp
  rw [e3]
  exact ⟨h3 0 _ (by omega) rfl, ⟨A', m, c', by have := h3 1 _ (by omega) rfl; rw [e2] at this; exact this, h4.hat⟩, h3 2 _ (by omega) rfl⟩

theorem info_step : (Tryd.prog.info? 25).map (fun i => (i.zero, i.size, i.bytes)) = some (some (.agg #[.string ⟨#[]⟩, .slice none 0 0, .bool false]), 3, 48) := by kernel_rfl
/-- 'out = append(out, s)', at one operation. -/
theorem wapp_step {w : World} {o : Oper} {a : Act} {K : Act → World → Prop} {Q : Exit → Act → World → Prop} (base : Nat) (v : Value) (n : Nat) (ss : List Step) (b : Nat) (s : Step) (A : Option Addr) (m c : Nat) (hown : SRow w base v n ss) (hs0 : SStr w base A m s.after)
    (l x : Operand) (ho : o.op = .call { callee := .builtin .append, args := #[l, x], argTypes := #[36, 36] })
    (hs : a.eval l = v) (hx : a.eval x = .slice (some ⟨b, 0, none⟩) 1 1) (hb : w.heap[b]? = some (.cells #[.string s.name, .slice A m c, .bool s.undo] 25 (0, 0))) (hn : n ≤ 1048576) (hbase : base ≤ w.heap.size)
    (h : ∀ v' w', SRow w' base v' (n + 1) (ss ++ [s]) → w.grownBy w' v.ownBlock → (v'.ownBlock = v.ownBlock ∨ v'.ownBlock = some w.heap.size) → K (a.put o.dst v') w') : o.wp Tryd.prog a w K Q := by
  have hN : ∀ (b : Nat) (cs : Array Value), w.heap[b]? = some (Obj.cells cs 9 (0, 0)) → v.ownBlock ≠ some b := fun b cs hc => hown.ne hc (by decide)
  obtain ⟨ps, rfl, h1, h2⟩ := hown
  refine wapp 36 25 3 48 _ Tryd.underlying36 info_step rfl (by omega) (by omega) base v n _ (pcells (s, .slice A m c)) b h1 l x ho hs hx hb rfl ?_ hn hbase ?_
  · intro u hu; simp [pcells] at hu; rcases hu with rfl | rfl | rfl <;> rfl
  · intro v' w' h3 h4 h5
    have hk : ∀ b cs, base ≤ b → w.heap[b]? = some (.cells cs 9 (0, 0)) → w'.heap[b]? = w.heap[b]? := fun b cs _ hc => h4.block b (heap_lt hc) (Ne.symm (hN b cs hc))
    refine h v' w' ⟨ps ++ [(s, .slice A m c)], by simp, by rw [List.flatMap_append]; simpa using h3, fun p hp => ?_⟩ h4 h5
    rcases List.mem_append.1 hp with hp | hp
    · obtain ⟨A', m', c', e, h6⟩ := h2 p hp
      exact ⟨A', m', c', e, h6.kept hk⟩
    · rw [List.mem_singleton] at hp
      subst hp
      exact ⟨A, m, c, rfl, hs0.kept hk⟩
/-- The same ahead of what follows. -/
theorem app_stepW {w : World} {ops : Array Oper} {rest : List Oper} {o : Oper} {a : Act} {Q : Exit → Act → World → Prop} (base : Nat) (v : Value) (n : Nat) (ss : List Step) (b : Nat) (s : Step) (A : Option Addr) (m c : Nat) (hown : SRow w base v n ss) (hs0 : SStr w base A m s.after)
    (hgd : o.guard = none) (l x : Operand) (ho : o.op = .call { callee := .builtin .append, args := #[l, x], argTypes := #[36, 36] })
    (hs : a.eval l = v) (hx : a.eval x = .slice (some ⟨b, 0, none⟩) 1 1) (hb : w.heap[b]? = some (.cells #[.string s.name, .slice A m c, .bool s.undo] 25 (0, 0))) (hn : n ≤ 1048576) (hbase : base ≤ w.heap.size)
    (h : ∀ v' w', SRow w' base v' (n + 1) (ss ++ [s]) → w.grownBy w' v.ownBlock → (v'.ownBlock = v.ownBlock ∨ v'.ownBlock = some w.heap.size) → wpList Tryd.prog ops Q rest (a.put o.dst v') w') : wpList Tryd.prog ops Q (o :: rest) a w :=
  wpList_plain hgd fun _ hK => wapp_step base v n ss b s A m c hown hs0 l x ho hs hx hb hn hbase fun v' w' h1 h2 h3 => hK _ _ (h v' w' h1 h2 h3)

theorem okSteps_app {ss : List Step} {s : Step} (h : okSteps ss) (hl : ss.length ≤ 1000) (hs : okStep s) : okSteps (ss ++ [s]) := by
  refine ⟨by simp; omega, fun j hj => ?_⟩
  rcases Nat.lt_or_ge j ss.length with h1 | h1
  · have e : nth (ss ++ [s]) j = nth ss j := by rw [nth_eq hj, nth_eq h1, List.getElem_append_left h1]
    rw [e]; exact h.2 j h1
  · have h2 : j = ss.length := by simp at hj; omega
    subst h2
    have e : nth (ss ++ [s]) ss.length = s := by rw [nth_eq hj]; simp
    rw [e]; exact hs
theorem okS_app {xs : List Str} {s : Str} (h : okS xs) (hl : xs.length ≤ 1000) (hs : s.size ≤ maxLen) : okS (xs ++ [s]) := by
  refine ⟨by simp; omega, fun j hj => ?_⟩
  rcases Nat.lt_or_ge j xs.length with h1 | h1
  · have e : nth (xs ++ [s]) j = nth xs j := by rw [nth_eq hj, nth_eq h1, List.getElem_append_left h1]
    rw [e]; exact h.2 j h1
  · have h2 : j = xs.length := by simp at hj; omega
    subst h2
    have e : nth (xs ++ [s]) xs.length = s := by rw [nth_eq hj]; simp
    rw [e]; exact hs
theorem okS_one {s : Str} (h : s.size ≤ maxLen) : okS [s] := ⟨by simp, fun j hj => by
  have : j = 0 := by simpa using hj
  subst this
  exact h⟩
theorem okS_nil : okS [] := ⟨by simp, fun j hj => absurd hj (by simp)⟩
theorem okSteps_nil : okSteps [] := ⟨by simp, fun j hj => absurd hj (by simp)⟩
theorem okSteps_set {ss : List Step} {j : Nat} {ys : List Str} (h : okSteps ss) (hy : okS ys) : okSteps (ss.set j { nth ss j with after := ys }) := by
  refine ⟨by rw [List.length_set]; exact h.1, fun i hi => ?_⟩
  rw [List.length_set] at hi
  by_cases hj : j < ss.length
  · rw [nth_set hj]
    split
    · exact ⟨(h.2 j hj).1, hy⟩
    · exact h.2 i hi
  · rw [List.set_eq_of_length_le (by omega)]
    exact h.2 i hi
theorem okSteps_undo {ss : List Step} {j : Nat} {u : Bool} (h : okSteps ss) : okSteps (ss.set j { nth ss j with undo := u }) := by
  refine ⟨by rw [List.length_set]; exact h.1, fun i hi => ?_⟩
  rw [List.length_set] at hi
  by_cases hj : j < ss.length
  · rw [nth_set hj]
    split
    · exact h.2 j hj
    · exact h.2 i hi
  · rw [List.set_eq_of_length_le (by omega)]
    exact h.2 i hi
end Go.Proofs.YthdfefgianokgaaDoor

/- Drawing: what is drawn is some value; it is not told which. -/
namespace Go.Proofs.YthdfefgianokgaaDoor
open Go.RowKit

theorem xor_in (x : Nat) (n : Int) (hx : x < 4611686018427387904) (hn : 1 ≤ n) :
    0 ≤ (bits .xor .i64 (x : Int) ((x : Int) / 64)).tmod n ∧ (bits .xor .i64 (x : Int) ((x : Int) / 64)).tmod n < n := by
  have h := i64_xor_pos x (x / 64) (by omega) (by omega)
  have e : (((x / 64 : Nat)) : Int) = (x : Int) / 64 := by omega
  rw [e] at h
  exact ⟨Int.tmod_nonneg _ h.1, Int.tmod_lt_of_pos _ (by omega)⟩

def PickQ (T : TypeId) (g p : Nat) (n : Int) (w : World) (e : Ending) (w' : World) : Prop :=
  ∃ v : Int, e = .returned (.int .i64 v) ∧ 0 ≤ v ∧ (1 ≤ n → v < n) ∧ v ≤ 1099511627776 ∧ Rd T w' g (p + 1) ∧ On g w w' ∧ w'.heap.size = w.heap.size
theorem pick_any (g p : Nat) (n : Int) (w : World) (h : Rd 79 w g p) (hp : p ≤ 1099511627776) (hn : n ≤ 1099511627776) :
    Calls Tryd.prog 40 #[.pointer (some ⟨g, 0, none⟩), .int .i64 n] w (PickQ 79 g p n w) := by
  have HL := Lib.hid h.lt
  have HN := Lib.hid (Rd.step h)
  have HO := Lib.hid ((On.refl g w).set_ 1 (.int .i64 ((p : Int) + 1)))
  have HS := Lib.hid (show (w.setCell ⟨g, 1, none⟩ (.int .i64 ((p : Int) + 1))).heap.size = w.heap.size by simp [World.setCell])
  obtain ⟨A, len, c, hlen, hg, hr⟩ := h
  have hr1 : w.cell? ⟨g, 1, none⟩ = some (.int .i64 (p : Int)) := by simp [World.cell?, hg]
  have hr2 : w.frozen? ⟨g, 1, none⟩ = false := by simp [World.frozen?, hg]
  have hr3 : (w.setCell ⟨g, 1, none⟩ (.int .i64 ((p : Int) + 1))).cell? ⟨g, 0, none⟩ = some (.slice A len c) := by simp [World.cell?, World.setCell, Array.getElem?_modify, hg]
  have hr4 : (w.setCell ⟨g, 1, none⟩ (.int .i64 ((p : Int) + 1))).cell? ⟨g, 1, none⟩ = some (.int .i64 ((p : Int) + 1)) := by simp [World.cell?, World.setCell, Array.getElem?_modify, hg]
  clear hg
  by_cases h1 : n < 1
  · go_enter Tryd.func40, Tryd.ntmps40
    go_wp2_with fail
    go_ret
    exact ⟨0, rfl, by omega, by omega, by omega, HN.out, HO.out, HS.out⟩
  by_cases h2 : len < 1
  · have h3 : ((len : Int) == 0) = true := by rw [beq_iff_eq]; omega
    go_enter Tryd.func40, Tryd.ntmps40
    go_wp2_with fail
    go_ret
    exact ⟨0, rfl, by omega, by omega, by omega, HN.out, HO.out, HS.out⟩
  have h3 : ((len : Int) == 0) = false := by rw [beq_eq_false_iff_ne]; omega
  obtain ⟨b, off, rfl, hbg, hc⟩ := hr (by omega)
  have hcs : ∀ k, k < len → ∃ u : Nat, u < 256 ∧ (w.setCell ⟨g, 1, none⟩ (.int .i64 ((p : Int) + 1))).cell? ⟨b, off + k, none⟩ = some (.int .u8 (u : Int)) := fun k hk => by
    obtain ⟨u, hu, hcu⟩ := hc k hk
    exact ⟨u, hu, (World.cell?_setCell_other w _ _ _ (fun e => by injection e; omega)).trans hcu⟩
  clear hc hr
  by_cases h4 : p < len
  · obtain ⟨u, hu, hcu⟩ := hcs p h4
    clear hcs
    have hu2 : (u : Int) < 256 := by omega
    go_enter Tryd.func40, Tryd.ntmps40
    go_wp2_with fail
    go_ret
    exact ⟨_, rfl, Int.emod_nonneg _ (by omega), fun _ => Int.emod_lt_of_pos _ (by omega), by have := Int.emod_lt_of_pos (u : Int) (show (0 : Int) < n by omega); omega, HN.out, HO.out, HS.out⟩
  · have hl0 : 0 < len := by omega
    have hT1 : (p : Int).tmod (len : Int) = ((p % len : Nat) : Int) := rfl
    have hT2 : ((p : Int) * 7 + 3).tmod (len : Int) = (((p * 7 + 3) % len : Nat) : Int) := rfl
    have hm1 : p % len < len := Nat.mod_lt _ hl0
    have hm2 : (p * 7 + 3) % len < len := Nat.mod_lt _ hl0
    generalize p % len = i1 at hT1 hm1
    generalize (p * 7 + 3) % len = i2 at hT2 hm2
    obtain ⟨u, hu, hcu⟩ := hcs i1 hm1
    obtain ⟨v, hv, hcv⟩ := hcs i2 hm2
    clear hcs
    have hdl : p / len ≤ p := Nat.div_le_self _ _
    obtain ⟨q, hq⟩ : ∃ q, q = p / len := ⟨_, rfl⟩
    have hz : ¬ len = 0 := by omega
    have hT3 : (p : Int).tdiv (len : Int) = (q : Int) := by rw [hq]; rfl
    rw [← hq] at hdl
    have W1 : IntKind.i64.wrap ((u : Int) * 131) = (u : Int) * 131 := IntWalk.i64_in _ (by omega)
    have W2 : IntKind.i64.wrap ((p : Int) * 7) = (p : Int) * 7 := IntWalk.i64_in _ (by omega)
    have W3 : IntKind.i64.wrap ((p : Int) * 7 + 3) = (p : Int) * 7 + 3 := IntWalk.i64_in _ (by omega)
    have W4 : IntKind.i64.wrap ((v : Int) * 1117) = (v : Int) * 1117 := IntWalk.i64_in _ (by omega)
    have W5 : IntKind.i64.wrap ((u : Int) * 131 + (v : Int) * 1117) = (u : Int) * 131 + (v : Int) * 1117 := IntWalk.i64_in _ (by omega)
    have W6 : IntKind.i64.wrap ((p : Int) * 29) = (p : Int) * 29 := IntWalk.i64_in _ (by omega)
    have W7 : IntKind.i64.wrap ((u : Int) * 131 + (v : Int) * 1117 + (p : Int) * 29) = (u : Int) * 131 + (v : Int) * 1117 + (p : Int) * 29 := IntWalk.i64_in _ (by omega)
    have W8 : IntKind.i64.wrap (q : Int) = (q : Int) := IntWalk.i64_in _ (by omega)
    have W9 : IntKind.i64.wrap ((q : Int) * 53) = (q : Int) * 53 := IntWalk.i64_in _ (by omega)
    have W10 : IntKind.i64.wrap ((u : Int) * 131 + (v : Int) * 1117 + (p : Int) * 29 + (q : Int) * 53) = (u : Int) * 131 + (v : Int) * 1117 + (p : Int) * 29 + (q : Int) * 53 := IntWalk.i64_in _ (by omega)
    clear hq
    go_enter Tryd.func40, Tryd.ntmps40
    go_wp2_with fail
    go_quiet (fail)
    clear W1 W2 W3 W4 W5 W6 W7 W8 W9 W10 hT1 hT2 hT3
    obtain ⟨x, hx⟩ : ∃ x : Nat, (x : Int) = (u : Int) * 131 + (v : Int) * 1117 + (p : Int) * 29 + (q : Int) * 53 := ⟨u * 131 + v * 1117 + p * 29 + q * 53, by omega⟩
    go_wp2_with fail
    go_ret
    have hxx := xor_in x n (by omega) (by omega)
    rw [hx] at hxx
    exact ⟨_, rfl, hxx.1, fun _ => hxx.2, by omega, HN.out, HO.out.drewN _, HS.out⟩

theorem of_any (g p : Nat) (A : Option Addr) (n c : Nat) (xs : List Str) (lo : Nat) (w : World) (h : Rd 79 w g p) (hp : p ≤ 1099511627776) (hr : RStr w lo A n xs) (hn : 1 ≤ n) (hn2 : n ≤ 1048576) (hlo : g < lo) :
    Calls Tryd.prog 41 #[.pointer (some ⟨g, 0, none⟩), .slice A n c] w fun e w' =>
      ∃ k : Nat, k < n ∧ e = .returned (.string (nth xs k)) ∧ Rd 79 w' g (p + 1) ∧ On g w w' ∧ w'.heap.size = w.heap.size := by
  have HH := Lib.hid h; clear h
  obtain ⟨b, off, rfl, ⟨hb1, hb2⟩, hc⟩ := RStr.at_ hr (k := 0) (by omega)
  have HC := Lib.hid hc; clear hc
  have HR := Lib.hid hr; clear hr
  go_enter Tryd.func41, Tryd.ntmps41
  go_wp2_with fail
  refine (pick_any g p _ _ HH.out hp (by omega)).mono ?_
  rintro e w1 ⟨v, rfl, hv0, hv1, hv2, hrd, hon, hsz⟩
  obtain ⟨k, rfl⟩ := Int.eq_ofNat_of_zero_le hv0
  have hk : k < n := by have := hv1 (by omega); omega
  have hcell := (hon.cell (o := off + k) hb2 (by omega)).trans (HC.out k hk).1
  have HRD := Lib.hid hrd; clear hrd
  have HON := Lib.hid hon; clear hon
  have HSZ := Lib.hid hsz; clear hsz
  clear hv1
  go_wp2_with fail
  go_ret
  exact ⟨k, hk, rfl, HRD.out, HON.out, HSZ.out⟩

/-- pick, as it is used. -/
theorem pick (w0 : World) (g q : Nat) (n : Int) (w : World) (h : Dr 79 w0 g q w) (hq : q ≤ 1099511627776) (hn : n ≤ 1099511627776) :
    Calls Tryd.prog 40 #[.pointer (some ⟨g, 0, none⟩), .int .i64 n] w fun e w' =>
      ∃ v : Int, e = .returned (.int .i64 v) ∧ 0 ≤ v ∧ (1 ≤ n → v < n) ∧ v ≤ 1099511627776 ∧ Dr 79 w0 g (q + 1) w' ∧ On g w w' := by
  obtain ⟨p, hp, hr⟩ := h.rd
  refine (pick_any g p n w hr (by omega) hn).mono ?_
  rintro e w' ⟨v, h1, h2, h3, h4, h5, h6, _⟩
  exact ⟨v, h1, h2, h3, h4, ⟨h.on.trans h6, p + 1, by omega, h5⟩, h6⟩
theorem of_ (w0 : World) (g q : Nat) (A : Option Addr) (n c : Nat) (xs : List Str) (lo : Nat) (w : World) (h : Dr 79 w0 g q w) (hq : q ≤ 1099511627776) (hr : RStr w lo A n xs) (hn : 1 ≤ n) (hn2 : n ≤ 1048576) (hlo : g < lo) :
    Calls Tryd.prog 41 #[.pointer (some ⟨g, 0, none⟩), .slice A n c] w fun e w' =>
      ∃ s : Str, e = .returned (.string s) ∧ s ∈ xs ∧ Dr 79 w0 g (q + 1) w' ∧ On g w w' := by
  obtain ⟨p, hp, hrd⟩ := h.rd
  refine (of_any g p A n c xs lo w hrd (by omega) hr hn hn2 hlo).mono ?_
  rintro e w' ⟨k, h1, h2, h5, h6, _⟩
  exact ⟨_, h2, mem_nth (by rw [hr.1]; exact h1), ⟨h.on.trans h6, p + 1, by omega, h5⟩, h6⟩

/-! ### The reader is made -/
def RByte (w : World) (A : Option Addr) (n : Nat) : Prop :=
  0 < n → ∃ b off, A = some ⟨b, off, none⟩ ∧ b < w.heap.size ∧ ∀ k, k < n → ∃ u : Nat, u < 256 ∧ w.cell? ⟨b, off + k, none⟩ = some (.int .u8 (u : Int))

theorem open_any (A : Option Addr) (n c : Nat) (w : World) (hr : RByte w A n) (hc : n ≤ c) (hn : n ≤ 1048576) :
    Calls Tryd.prog 28 #[.slice A n c] w fun e w' => e = .returned (.pointer (some ⟨w.heap.size, 0, none⟩)) ∧ Rd 79 w' w.heap.size 0 ∧ Below w.heap.size w w' := by
  have HR := Lib.hid hr; clear hr
  by_cases h : 2000 < n
  · go_enter Tryd.func28, Tryd.ntmps28
    go_wp2_with fail
    go_ret
    refine ⟨rfl, ⟨A, 2000, c, Nat.le_refl _, ?_, fun h0 => ?_⟩, (Below.refl _ _).alloc (Nat.le_refl _) _⟩
    · exact heap_new rfl
    · obtain ⟨b, off, e, hb, hk⟩ := HR.out (by omega)
      refine ⟨b, off, e, hb, fun k hk2 => ?_⟩
      obtain ⟨u, hu, hcu⟩ := hk k (by omega)
      exact ⟨u, hu, (((Below.refl w.heap.size w).alloc (Nat.le_refl _) _).cell (p := ⟨b, off + k, none⟩) hb).trans hcu⟩
  · go_enter Tryd.func28, Tryd.ntmps28
    go_wp2_with fail
    go_ret
    refine ⟨rfl, ⟨A, n, c, by omega, ?_, fun h0 => ?_⟩, (Below.refl _ _).alloc (Nat.le_refl _) _⟩
    · exact heap_new rfl
    · obtain ⟨b, off, e, hb, hk⟩ := HR.out (by omega)
      refine ⟨b, off, e, hb, fun k hk2 => ?_⟩
      obtain ⟨u, hu, hcu⟩ := hk k (by omega)
      exact ⟨u, hu, (((Below.refl w.heap.size w).alloc (Nat.le_refl _) _).cell (p := ⟨b, off + k, none⟩) hb).trans hcu⟩
end Go.Proofs.YthdfefgianokgaaDoor

/- Drawing guards and values. -/
namespace Go.Proofs.YthdfefgianokgaaDoor
open Go.RowKit

def nm6 : Array Value := #[.string ⟨#[97]⟩, .string ⟨#[98]⟩, .string ⟨#[99]⟩, .string ⟨#[100]⟩, .string ⟨#[101]⟩, .string ⟨#[122, 122]⟩]
theorem nm6_at (k : Nat) (hk : k < 6) : ∃ s : Str, nm6[k]? = some (.string s) ∧ s.size ≤ 5 := by
  match k, hk with
  | 0, _ => exact ⟨⟨#[97]⟩, rfl, by decide⟩
  | 1, _ => exact ⟨⟨#[98]⟩, rfl, by decide⟩
  | 2, _ => exact ⟨⟨#[99]⟩, rfl, by decide⟩
  | 3, _ => exact ⟨⟨#[100]⟩, rfl, by decide⟩
  | 4, _ => exact ⟨⟨#[101]⟩, rfl, by decide⟩
  | 5, _ => exact ⟨⟨#[122, 122]⟩, rfl, by decide⟩
theorem okG_app {gs : List Guard} {x : Guard} (h : okG gs) (hl : gs.length ≤ 1000) (hx : x.name.size ≤ maxLen) : okG (gs ++ [x]) := by
  refine ⟨by simp; omega, fun j hj => ?_⟩
  rcases Nat.lt_or_ge j gs.length with h1 | h1
  · have e : nth (gs ++ [x]) j = nth gs j := by rw [nth_eq hj, nth_eq h1, List.getElem_append_left h1]
    rw [e]; exact h.2 j h1
  · have h2 : j = gs.length := by simp at hj; omega
    subst h2
    have e : nth (gs ++ [x]) gs.length = x := by rw [nth_eq hj]; simp
    rw [e]; exact hx

theorem lit2_at (a b : Int) (m : Nat) (h : m < 2) : ∃ x : Int, (#[Value.int .i64 a, Value.int .i64 b] : Array Value)[m]? = some (.int .i64 x) := by
  match m, h with
  | 0, _ => exact ⟨_, rfl⟩
  | 1, _ => exact ⟨_, rfl⟩
theorem lit3_at (a b c : Int) (m : Nat) (h : m < 3) : ∃ x : Int, (#[Value.int .i64 a, Value.int .i64 b, Value.int .i64 c] : Array Value)[m]? = some (.int .i64 x) := by
  match m, h with
  | 0, _ => exact ⟨_, rfl⟩
  | 1, _ => exact ⟨_, rfl⟩
  | 2, _ => exact ⟨_, rfl⟩
theorem okG_var {gs : List Guard} {j : Nat} {x : Int} (h : okG gs) : okG (gs.set j { nth gs j with var := x }) := by
  refine ⟨by rw [List.length_set]; exact h.1, fun i hi => ?_⟩
  rw [List.length_set] at hi
  by_cases hj : j < gs.length
  · rw [nth_set hj]
    split
    · exact h.2 j hj
    · exact h.2 i hi
  · rw [List.set_eq_of_length_le (by omega)]
    exact h.2 i hi

def DrawGC (w : World) (e : Ending) (w' : World) : Prop :=
  ∃ A n c B m d gs vs, e = .returned (.tuple #[.slice A n c, .slice B m d]) ∧ RGuard w' w.heap.size A n gs ∧ okG gs ∧ RInt w' w.heap.size B m vs ∧ m ≤ 4 ∧ Below w.heap.size w w'
end Go.Proofs.YthdfefgianokgaaDoor

/- Steps: which are valid. -/
namespace Go.Proofs.YthdfefgianokgaaDoor
open Go.RowKit

theorem asc_ways (xs : List Str) (k : Nat) : nameB (nth xs k) = false ∨ (nameB (nth xs k) = true ∧ (k = 0 ∨ (0 < k ∧ (strLt (nth xs (k - 1)) (nth xs k) = false ∨ strLt (nth xs (k - 1)) (nth xs k) = true)))) := by
  cases nameB (nth xs k) <;> cases strLt (nth xs (k - 1)) (nth xs k) <;> simp <;> omega
theorem ascB_bad {xs : List Str} {k : Nat} (hk : k < xs.length) (h : ascAt xs k = false) : ascB xs = false := allN_false hk h

set_option maxRecDepth 100000 in
theorem namesAscend_any (A : Option Addr) (n c : Nat) (xs : List Str) (lo : Nat) (w : World) (hr : RStr w lo A n xs) (hok : okS xs) :
    Calls Tryd.prog 43 #[.slice A n c] w fun e w' => e = .returned (.bool (ascB xs)) ∧ w = w' := by
  have hn : n ≤ 1048576 := by have := hok.1; rw [hr.1] at this; exact this
  have HO := Lib.hid hok; clear hok
  have HR := Lib.hid hr; clear hr
  go_enter Tryd.func43, Tryd.ntmps43
  go_wp2_with fail
  go_loop [7] (fun i => ∃ k : Nat, k ≤ n ∧ i = .int .i64 k ∧ ∀ j, j < k → ascAt xs j = true) (fun i => n - (intOf i).toNat)
  case atStart => exact ⟨0, Nat.zero_le _, rfl, fa_zero⟩
  case round =>
    obtain ⟨k, hk, rfl, hp⟩ := hrel
    have HP := Lib.hid hp; clear hp
    by_cases hlt : k < n
    · obtain ⟨b, off, rfl, _, hc⟩ := RStr.at_ HR.out hlt
      obtain ⟨c1, _⟩ := hc k hlt
      have HL := Lib.hid (show k < xs.length by rw [HR.out.1]; exact hlt)
      have hsz := HO.out.2 k HL.out
      rcases asc_ways xs k with h1 | ⟨h1, h2 | ⟨h2, h3 | h3⟩⟩
      · clear hc
        have HG : Hid (ascAt xs k = false) := by simp [Hid, ascAt, h1]
        go_wp2_with (go_at_call 42; refine (nameI_any _ _ hsz).mono ?_; rintro e w' ⟨rfl, rfl⟩)
        go_ret
        exact ⟨ret_b (ascB_bad HL.out HG.out).symm, rfl⟩
      · clear hc
        have HG : Hid (ascAt xs k = true) := by
          have e0 : decide (k = 0) = true := by simpa using h2
          unfold Hid ascAt; rw [h1, e0]; rfl
        have h6 : decide ((0 : Int) < (k : Int)) = false := by simp; omega
        have h7 : decide (0 < k) = false := by simp; omega
        clear h2
        go_wp2_with (go_at_call 42; refine (nameI_any _ _ hsz).mono ?_; rintro e w' ⟨rfl, rfl⟩)
        go_round
        case rel => exact ⟨k + 1, by omega, by go_num, fa_succ HP.out HG.out⟩
        case measure => simp [intOf]; omega
      · obtain ⟨d1, _⟩ := hc (k - 1) (by omega)
        clear hc
        have h6 : decide ((0 : Int) < (k : Int)) = true := by simp; omega
        have h8 : (Op.bytesLess (ByteArray.toList (nth xs k)) (ByteArray.toList (nth xs (k - 1))) || ByteArray.toList (nth xs k) == ByteArray.toList (nth xs (k - 1))) = true := by rw [str_le, h3]; rfl
        have HG : Hid (ascAt xs k = false) := by simp [Hid, ascAt, h3]; omega
        go_wp2_with (go_at_call 42; refine (nameI_any _ _ hsz).mono ?_; rintro e w' ⟨rfl, rfl⟩)
        go_ret
        exact ⟨ret_b (ascB_bad HL.out HG.out).symm, rfl⟩
      · obtain ⟨d1, _⟩ := hc (k - 1) (by omega)
        clear hc
        have h6 : decide ((0 : Int) < (k : Int)) = true := by simp; omega
        have h8 : (Op.bytesLess (ByteArray.toList (nth xs k)) (ByteArray.toList (nth xs (k - 1))) || ByteArray.toList (nth xs k) == ByteArray.toList (nth xs (k - 1))) = false := by rw [str_le, h3]; rfl
        have HG : Hid (ascAt xs k = true) := by simp [Hid, ascAt, h1, h3]
        go_wp2_with (go_at_call 42; refine (nameI_any _ _ hsz).mono ?_; rintro e w' ⟨rfl, rfl⟩)
        go_round
        case rel => exact ⟨k + 1, by omega, by go_num, fa_succ HP.out HG.out⟩
        case measure => simp [intOf]; omega
    · go_wp2_with fail
      go_ret
      exact ⟨ret_b (allN_true (fun j hj => HP.out j (by have := HR.out.1; omega))).symm, rfl⟩

theorem step_waysI (s : Step) : nameB s.name = false ∨ (nameB s.name = true ∧ (4 < s.after.length ∨ (s.after.length ≤ 4 ∧ (ascB s.after = false ∨ (ascB s.after = true ∧ (hasB s.after s.name = true ∨ hasB s.after s.name = false)))))) := by
  cases nameB s.name <;> cases ascB s.after <;> cases hasB s.after s.name <;> simp <;> omega

set_option maxRecDepth 100000 in
theorem stepI_any (A : Option Addr) (n c : Nat) (s : Step) (lo : Nat) (w : World) (hr : RStr w lo A n s.after) (hok : okStep s) :
    Calls Tryd.prog 20 #[.agg #[.string s.name, .slice A n c, .bool s.undo]] w fun e w' => e = .returned (.bool (stepB s)) ∧ Below w.heap.size w w' := by
  have hsz := hok.1
  have hn : n ≤ 1048576 := by have := hok.2.1; rw [hr.1] at this; exact this
  have HO := Lib.hid hok; clear hok
  have HR := Lib.hid hr; clear hr
  have HS := Lib.hid (step_waysI s)
  have HB := Lib.hid (fun o => (Below.refl w.heap.size w).alloc (Nat.le_refl _) o)
  rcases HS.out with h1 | ⟨h1, h2 | ⟨h2, h3 | ⟨h3, h4 | h4⟩⟩⟩
  all_goals have HG := Lib.hid (show stepB s = (ascB s.after && nameB s.name && !hasB s.after s.name && decide (s.after.length ≤ 4)) from rfl)
  all_goals rw [HR.out.1] at HG
  · go_enter Tryd.func20, Tryd.ntmps20
    go_wp2_with (go_at_call 42; refine (nameI_any _ _ hsz).mono ?_; rintro e w' ⟨rfl, rfl⟩)
    go_ret
    exact ⟨ret_b (by rw [HG.out, h1]; simp), HB.out _⟩
  · rw [HR.out.1] at h2
    go_enter Tryd.func20, Tryd.ntmps20
    go_wp2_with (go_at_call 42; refine (nameI_any _ _ hsz).mono ?_; rintro e w' ⟨rfl, rfl⟩)
    go_ret
    exact ⟨ret_b (by rw [HG.out, show decide (n ≤ 4) = false by simp; omega]; simp), HB.out _⟩
  · rw [HR.out.1] at h2
    go_enter Tryd.func20, Tryd.ntmps20
    go_wp2_with (first | (go_at_call 42; refine (nameI_any _ _ hsz).mono ?_; rintro e w' ⟨rfl, rfl⟩) | (go_at_call 43; refine (namesAscend_any _ _ _ s.after _ _ (HR.out.alloc _) HO.out.2).mono ?_; rintro e w' ⟨rfl, rfl⟩))
    go_ret
    exact ⟨ret_b (by rw [HG.out, h3]; simp), HB.out _⟩
  · rw [HR.out.1] at h2
    go_enter Tryd.func20, Tryd.ntmps20
    go_wp2_with (first | (go_at_call 42; refine (nameI_any _ _ hsz).mono ?_; rintro e w' ⟨rfl, rfl⟩) | (go_at_call 43; refine (namesAscend_any _ _ _ s.after _ _ (HR.out.alloc _) HO.out.2).mono ?_; rintro e w' ⟨rfl, rfl⟩) | (go_at_call 44; refine (contains_any _ _ _ s.after _ _ _ (HR.out.alloc _) hn).mono ?_; rintro e w' ⟨rfl, rfl⟩))
    go_ret
    exact ⟨ret_b (by rw [HG.out, h4]; simp), HB.out _⟩
  · rw [HR.out.1] at h2
    go_enter Tryd.func20, Tryd.ntmps20
    go_wp2_with (first | (go_at_call 42; refine (nameI_any _ _ hsz).mono ?_; rintro e w' ⟨rfl, rfl⟩) | (go_at_call 43; refine (namesAscend_any _ _ _ s.after _ _ (HR.out.alloc _) HO.out.2).mono ?_; rintro e w' ⟨rfl, rfl⟩) | (go_at_call 44; refine (contains_any _ _ _ s.after _ _ _ (HR.out.alloc _) hn).mono ?_; rintro e w' ⟨rfl, rfl⟩))
    go_ret
    exact ⟨ret_b (by rw [HG.out, h1, h3, h4, show decide (n ≤ 4) = true by simp; omega]; rfl), HB.out _⟩

set_option maxRecDepth 100000 in
set_option maxHeartbeats 400000 in
theorem stepS_any (A : Option Addr) (n c : Nat) (s : Step) (lo : Nat) (w : World) (hr : RStr w lo A n s.after) (hok : okStep s) :
    Calls Tryd.prog 30 #[.agg #[.string s.name, .slice A n c, .bool s.undo]] w fun e w' => e = .returned (.bool (stepB s)) ∧ Below w.heap.size w w' := by
  have hszn := hok.1
  have hn : n ≤ 1048576 := by have := hok.2.1; rw [hr.1] at this; exact this
  have HO := Lib.hid hok.2; clear hok
  have HR := Lib.hid hr; clear hr
  have HB := Lib.hid (fun m => below_drewN ((Below.refl w.heap.size w).alloc (Nat.le_refl _) (.cells #[.string s.name, .slice A n c, .bool s.undo] 25)) m)
  go_enter Tryd.func30, Tryd.ntmps30
  go_wp2_with fail
  go_loopw [3] (fun i wr => ∃ k m : Nat, k ≤ n ∧ i = .int .i64 k ∧ wr = (w.alloc (.cells #[.string s.name, .slice A n c, .bool s.undo] 25)).drewN m ∧ ∀ j, j < k → ascAt s.after j = true) (fun i _ => n - (intOf i).toNat)
  case atStart => exact ⟨0, 0, Nat.zero_le _, rfl, rfl, fa_zero⟩
  case round =>
    obtain ⟨k, m, hk, rfl, rfl, hp⟩ := hrel
    have HP := Lib.hid hp; clear hp
    have HRM := Lib.hid ((HR.out.alloc (.cells #[.string s.name, .slice A n c, .bool s.undo] 25)).drewN m)
    by_cases hlt : k < n
    · obtain ⟨b, off, rfl, ⟨_, hbl⟩, hc⟩ := RStr.at_ HR.out hlt
      obtain ⟨c1, _⟩ := hc k hlt
      have HL := Lib.hid (show k < s.after.length by rw [HR.out.1]; exact hlt)
      have hsz := HO.out.2 k HL.out
      rcases asc_ways s.after k with h1 | ⟨h1, h2 | ⟨h2, h3 | h3⟩⟩
      · clear hc
        have HG : Hid (ascAt s.after k = false) := by simp [Hid, ascAt, h1]
        go_wp2_with fail
        go_quiet ((go_at_call 57; exact q_same2 (nameS_any _ _ hsz)))
        go_wp2_with fail
        go_ret
        exact ⟨ret_b (by unfold stepB; rw [ascB_bad HL.out HG.out]; rfl), by rw [World.drewN_drewN]; exact HB.out _⟩
      · clear hc
        have HG : Hid (ascAt s.after k = true) := by
          have e0 : decide (k = 0) = true := by simpa using h2
          unfold Hid ascAt; rw [h1, e0]; rfl
        have h6 : decide ((0 : Int) < (k : Int)) = false := by simp; omega
        have h7 : decide (0 < k) = false := by simp; omega
        clear h2
        go_wp2_with fail
        go_quiet ((go_at_call 57; exact q_same2 (nameS_any _ _ hsz)))
        go_wp2_with fail
        go_roundw
        case rel => exact ⟨k + 1, _, by omega, by go_num, rfl, fa_succ HP.out HG.out⟩
        case measure => simp [intOf]; omega
      · obtain ⟨d1, _⟩ := hc (k - 1) (by omega)
        clear hc
        have h6 : decide ((0 : Int) < (k : Int)) = true := by simp; omega
        have h8 : Op.bytesLess (ByteArray.toList (nth s.after (k - 1))) (ByteArray.toList (nth s.after k)) = false := h3
        have HG : Hid (ascAt s.after k = false) := by simp [Hid, ascAt, h3]; omega
        go_wp2_with fail
        go_quiet ((go_at_call 57; exact q_same2 (nameS_any _ _ hsz)))
        go_wp2_with fail
        go_ret
        exact ⟨ret_b (by unfold stepB; rw [ascB_bad HL.out HG.out]; rfl), by rw [World.drewN_drewN]; exact HB.out _⟩
      · obtain ⟨d1, _⟩ := hc (k - 1) (by omega)
        clear hc
        have h6 : decide ((0 : Int) < (k : Int)) = true := by simp; omega
        have h8 : Op.bytesLess (ByteArray.toList (nth s.after (k - 1))) (ByteArray.toList (nth s.after k)) = true := h3
        have HG : Hid (ascAt s.after k = true) := by simp [Hid, ascAt, h1, h3]
        go_wp2_with fail
        go_quiet ((go_at_call 57; exact q_same2 (nameS_any _ _ hsz)))
        go_wp2_with fail
        go_roundw
        case rel => exact ⟨k + 1, _, by omega, by go_num, rfl, fa_succ HP.out HG.out⟩
        case measure => simp [intOf]; omega
    · have HA := Lib.hid (show ascB s.after = true from allN_true (fun j hj => HP.out j (by have := HR.out.1; omega)))
      have HG := Lib.hid (show stepB s = (ascB s.after && nameB s.name && !hasB s.after s.name && decide (s.after.length ≤ 4)) from rfl)
      rw [HR.out.1, HA.out, Bool.true_and] at HG
      cases h1 : nameB s.name
      · go_wp2_with (go_at_call 57; refine (nameS_any _ _ hszn).mono ?_; rintro e w' ⟨rfl, rfl⟩)
        go_ret
        exact ⟨ret_b (by rw [HG.out, h1]; rfl), HB.out _⟩
      cases h2 : hasB s.after s.name
      · have h3 := idx_neg h2
        go_wp2_with (first | (go_at_call 57; refine (nameS_any _ _ hszn).mono ?_; rintro e w' ⟨rfl, rfl⟩) | (go_at_call 58; refine (l1At_any _ _ _ s.after _ _ _ HRM.out hn).mono ?_; rintro e w' ⟨rfl, rfl⟩))
        go_ret
        exact ⟨ret_b (by rw [HG.out, h1, h2]; simp; omega), HB.out _⟩
      · have h3 := idx_pos h2
        go_wp2_with (first | (go_at_call 57; refine (nameS_any _ _ hszn).mono ?_; rintro e w' ⟨rfl, rfl⟩) | (go_at_call 58; refine (l1At_any _ _ _ s.after _ _ _ HRM.out hn).mono ?_; rintro e w' ⟨rfl, rfl⟩))
        go_ret
        exact ⟨ret_b (by rw [HG.out, h1, h2]; rfl), HB.out _⟩
end Go.Proofs.YthdfefgianokgaaDoor

/- Flows: the leaves. -/
namespace Go.Proofs.YthdfefgianokgaaDoor
open Go.RowKit

set_option maxRecDepth 100000 in
theorem l2At_any (A : Option Addr) (n c : Nat) (ss : List Step) (s : Str) (lo : Nat) (w : World) (hr : RStep w lo A n ss) (hn : n ≤ 1048576) :
    Calls Tryd.prog 70 #[.slice A n c, .string s] w fun e w' => e = .returned (.int .i64 (idxI (namesOf ss) s)) ∧ w = w' := by
  have HR := Lib.hid hr; clear hr
  go_enter Tryd.func70, Tryd.ntmps70
  go_wp2_with fail
  go_loop [5] (fun i => ∃ k : Nat, k ≤ n ∧ i = .int .i64 k ∧ ∀ j, j < k → (nth ss j).name ≠ s) (fun i => n - (intOf i).toNat)
  case atStart => exact ⟨0, Nat.zero_le _, rfl, fa_zero⟩
  case round =>
    obtain ⟨k, hk, rfl, hp⟩ := hrel
    have HP := Lib.hid hp; clear hp
    by_cases hlt : k < n
    · obtain ⟨b, off, rfl, _, hc⟩ := RStep.at_ HR.out hlt
      obtain ⟨A', n', c', ⟨c1, _⟩, _⟩ := hc k hlt
      clear hc
      by_cases he : (nth ss k).name = s
      · have HE := Lib.hid he; clear he
        have hq := seq_t HE.out
        go_wp2
        go_ret
        exact ⟨ret_i (idxI_at (fun j hj => by rw [namesOf_at (by rw [HR.out.1]; omega)]; exact HP.out j hj) (by rw [namesOf_len, HR.out.1]; exact hlt) (by rw [namesOf_at (by rw [HR.out.1]; exact hlt)]; exact HE.out)).symm, rfl⟩
      · have HE := Lib.hid he; clear he
        have hq := seq_f HE.out
        go_wp2
        go_round
        case rel => exact ⟨k + 1, by omega, by go_num, fa_succ HP.out HE.out⟩
        case measure => simp [intOf]; omega
    · go_wp2
      go_ret
      exact ⟨ret_i (idxI_none (fun j hj => by rw [namesOf_len, HR.out.1] at hj; rw [namesOf_at (by rw [HR.out.1]; exact hj)]; exact HP.out j (by omega))).symm, rfl⟩

theorem rdyB_ways (done : List Str) (s : Step) : (hasB done s.name = true ∧ rdyB done s = false) ∨ (hasB done s.name = false ∧ haveB done s.after = rdyB done s) := by
  unfold rdyB
  cases hasB done s.name <;> simp

theorem str_some {x : Str} (h : 1 ≤ x.size) : x.toList.isEmpty = false := by
  rw [List.isEmpty_eq_false_iff]
  intro e
  have e2 : x.data.toList = [] := by simpa [ByteArray.toList_eq] using e
  have e3 : x.size = 0 := by show x.data.size = 0; rw [← Array.length_toList, e2]; rfl
  omega

def nextS (ss : List Step) (done : List Str) : Str := match rdyL ss done with
  | [] => ⟨#[]⟩
  | x :: _ => x
theorem nextS_nil {ss : List Step} {done : List Str} (h : rdyL ss done = []) : nextS ss done = ⟨#[]⟩ := by unfold nextS; rw [h]
theorem nextS_cons {ss : List Step} {done : List Str} {x : Str} {r : List Str} (h : rdyL ss done = x :: r) : nextS ss done = x := by unfold nextS; rw [h]

set_option maxRecDepth 100000 in
theorem l2Next_any (A B : Option Addr) (n c m d : Nat) (ss : List Step) (done : List Str) (lo lo' : Nat) (w : World) (hr : RStep w lo A n ss) (hok : okSteps ss) (hd : RStr w lo' B m done) (hm : m ≤ 1048576) :
    Calls Tryd.prog 84 #[.slice A n c, .slice B m d] w fun e w' => e = .returned (.string (nextS ss done)) ∧ w = w' := by
  have hn : n ≤ 1048576 := by have := hok.1; rw [hr.1] at this; exact this
  have HO := Lib.hid hok; clear hok
  have HR := Lib.hid hr; clear hr
  have HD := Lib.hid hd; clear hd
  go_enter Tryd.func84, Tryd.ntmps84
  go_wp2_with fail
  go_loop [5] (fun i => ∃ k : Nat, k ≤ n ∧ i = .int .i64 k ∧ ∀ j, j < k → rdyB done (nth ss j) = false) (fun i => n - (intOf i).toNat)
  case atStart => exact ⟨0, Nat.zero_le _, rfl, fa_zero⟩
  case round =>
    obtain ⟨k, hk, rfl, hp⟩ := hrel
    have HP := Lib.hid hp; clear hp
    by_cases hlt : k < n
    · obtain ⟨b, off, rfl, _, hc⟩ := RStep.at_ HR.out hlt
      obtain ⟨A', n', c', ⟨c1, c2, _⟩, ha, _⟩ := hc k hlt
      have HL := Lib.hid (show k < ss.length by rw [HR.out.1]; exact hlt)
      have hn' : n' ≤ 1048576 := by have := (HO.out.2 k HL.out).2.1; rw [ha.1] at this; exact this
      have HA := Lib.hid ha; clear ha
      clear hc
      rcases rdyB_ways done (nth ss k) with ⟨h1, h2⟩ | ⟨h1, h2⟩
      · have h3 := idx_pos h1
        have H2 := Lib.hid h2; clear h2
        go_wp2_with (go_at_call 58; refine (l1At_any _ _ _ done _ _ _ HD.out hm).mono ?_; rintro e w' ⟨rfl, rfl⟩)
        go_round
        case rel => exact ⟨k + 1, by omega, by go_num, fa_succ HP.out H2.out⟩
        case measure => simp [intOf]; omega
      · have h3 := idx_neg h1
        have H2 := Lib.hid h2; clear h2
        cases h4 : haveB done (nth ss k).after
        · have H5 := Lib.hid (H2.out.symm.trans h4)
          go_wp2_with (first | (go_at_call 58; refine (l1At_any _ _ _ done _ _ _ HD.out hm).mono ?_; rintro e w' ⟨rfl, rfl⟩) | (go_at_call 99; refine (l1Have_any _ _ _ _ _ _ done _ _ _ _ HD.out hm HA.out hn').mono ?_; rintro e w' ⟨rfl, rfl⟩))
          go_round
          case rel => exact ⟨k + 1, by omega, by go_num, fa_succ HP.out H5.out⟩
          case measure => simp [intOf]; omega
        · have H5 := Lib.hid (rdyL_first HP.out HL.out (H2.out.symm.trans h4))
          go_wp2_with (first | (go_at_call 58; refine (l1At_any _ _ _ done _ _ _ HD.out hm).mono ?_; rintro e w' ⟨rfl, rfl⟩) | (go_at_call 99; refine (l1Have_any _ _ _ _ _ _ done _ _ _ _ HD.out hm HA.out hn').mono ?_; rintro e w' ⟨rfl, rfl⟩))
          go_ret
          obtain ⟨r, hr⟩ := H5.out
          exact ⟨ret_s (nextS_cons hr).symm, rfl⟩
    · go_wp2_with fail
      go_ret
      exact ⟨ret_s (nextS_nil (rdyL_none (fun j hj => HP.out j (by rw [HR.out.1] at hj; omega)))).symm, rfl⟩

set_option maxRecDepth 100000 in
theorem l2Order_any (A : Option Addr) (n c : Nat) (ss : List Step) (lo : Nat) (w : World) (hr : RStep w lo A n ss) (hok : okSteps ss) (hne : ∀ j, j < n → 1 ≤ (nth ss j).name.size) :
    Calls Tryd.prog 72 #[.slice A n c] w fun e w' => ∃ A' c', e = .returned (.slice A' (ordL ss).length c') ∧ RStr w' w.heap.size A' (ordL ss).length (ordL ss) ∧ Below w.heap.size w w' := by
  have hn : n ≤ 1048576 := by have := hok.1; rw [hr.1] at this; exact this
  have HO := Lib.hid hok; clear hok
  have HR := Lib.hid hr; clear hr
  have HNE := Lib.hid hne; clear hne
  go_enter Tryd.func72, Tryd.ntmps72
  go_wp2_with fail
  go_loopw [3, 4] (fun v i wr => ∃ k m : Nat, k ≤ n ∧ i = .int .i64 k ∧ m = (ordTo ss k).length ∧ Own 9 1 w wr v m ((ordTo ss k).map Value.string)) (fun _ i _ => n - (intOf i).toNat)
  case atStart => exact ⟨0, 0, Nat.zero_le _, rfl, rfl, ⟨World.ownsRow_made _ _ _ (Nat.le_refl _) (by unfold maxLen; omega) rfl, (Below.refl _ _).alloc (Nat.le_refl _) _⟩⟩
  case round =>
    obtain ⟨k, m, hk, rfl, hmk, how⟩ := hrel
    have HM := Lib.hid hmk; clear hmk
    have HW := Lib.hid how; clear how
    obtain ⟨A1, c1, rfl, hrs⟩ := own_str HW.out.row
    have HRS := Lib.hid hrs; clear hrs
    by_cases hlt : k < n
    · have hm1 : m ≤ k := by rw [HM.out]; exact ordTo_len ss k
      have hm2 : m ≤ 1048576 := by omega
      go_wp2_with fail
      refine (l2Next_any _ _ _ _ _ _ ss (ordTo ss k) _ _ _ (HR.out.below HW.out.below) HO.out HRS.out hm2).mono ?_
      rintro e w' ⟨rfl, rfl⟩
      cases hrd : rdyL ss (ordTo ss k) with
      | nil =>
        have HE := Lib.hid (nextS_nil hrd)
        have HT := Lib.hid (show ordTo ss (k + 1) = ordTo ss k from ordStep_nil hrd)
        clear hrd
        rw [HE.out]
        go_wp2_with fail
        go_roundw
        case rel => exact ⟨k + 1, m, by omega, by go_num, by rw [HT.out]; exact HM.out, by rw [HT.out]; exact HW.out⟩
        case measure => simp [intOf]; omega
      | cons x r =>
        have HE := Lib.hid (nextS_cons hrd)
        have HT := Lib.hid (show ordTo ss (k + 1) = ordTo ss k ++ [x] from ordStep_cons hrd)
        have hx : x.toList.isEmpty = false := by
          obtain ⟨s, hs, _, rfl⟩ := rdyL_mem.1 (show x ∈ rdyL ss (ordTo ss k) by rw [hrd]; simp)
          obtain ⟨j, hj, rfl⟩ := nth_of_mem hs
          have := HNE.out j (by rw [← HR.out.1]; exact hj)
          exact str_some this
        clear hrd
        rw [HE.out]
        go_wp2_with (at_builtin; refine app_str w _ m (ordTo ss k) _ x ?c0 rfl (.tmp 18) (.tmp 20) rfl rfl rfl ?c1 (by omega) ?_)
        case c0 => exact HW.out.alloc _
        case c1 => exact heap_new rfl
        intro v' w' how' hg'
        go_wp2_with fail
        go_roundw
        case rel => exact ⟨k + 1, m + 1, by omega, by go_num, by rw [HT.out, List.length_append, ← HM.out]; rfl, by rw [HT.out, List.map_append]; exact how'⟩
        case measure => simp [intOf]; omega
    · have hk2 : k = ss.length := by have := HR.out.1; omega
      go_wp2_with fail
      go_ret
      have e : ordTo ss k = ordL ss := by rw [hk2]; rfl
      have hl : m = (ordL ss).length := by rw [← e]; exact HM.out
      subst hl
      exact ⟨_, _, rfl, by have := HRS.out; rw [e] at this; exact this, HW.out.below⟩
end Go.Proofs.YthdfefgianokgaaDoor

/- Flows: names, ready, order. -/
namespace Go.Proofs.YthdfefgianokgaaDoor
open Go.RowKit

set_option maxRecDepth 100000 in
theorem names_any (A : Option Addr) (n c : Nat) (ver : Int) (ss : List Step) (lo : Nat) (w : World) (hr : RStep w lo A n ss) (hn : n ≤ 1048576) :
    Calls Tryd.prog 65 #[.agg #[.int .i64 ver, .slice A n c]] w fun e w' => ∃ A' c', e = .returned (.slice A' n c') ∧ RStr w' w.heap.size A' n (namesOf ss) ∧ Below w.heap.size w w' := by
  have HR := Lib.hid hr; clear hr
  go_enter Tryd.func65, Tryd.ntmps65
  go_wp2_with fail
  go_loopw [3, 9] (fun v i wr => ∃ k : Nat, k ≤ n ∧ i = .int .i64 k ∧ Own 9 1 w wr v k (((namesOf ss).take k).map Value.string)) (fun _ i _ => n - (intOf i).toNat)
  case atStart => exact ⟨0, Nat.zero_le _, rfl, ⟨World.ownsRow_nil _ _ _ _, (Below.refl _ _).alloc (Nat.le_refl _) _⟩⟩
  case round =>
    obtain ⟨k, hk, rfl, how⟩ := hrel
    have HW := Lib.hid how; clear how
    by_cases hlt : k < n
    · obtain ⟨b, off, rfl, ⟨_, hbr⟩, hc⟩ := RStep.at_ (HR.out.below HW.out.below) hlt
      obtain ⟨A', n', c', ⟨c1, c2, c3⟩, _⟩ := hc k hlt
      clear hc
      have HL := Lib.hid (show k < ss.length by rw [HR.out.1]; exact hlt)
      have HT := Lib.hid (show (namesOf ss).take (k + 1) = (namesOf ss).take k ++ [(nth ss k).name] by rw [take_nth (by rw [namesOf_len]; exact HL.out), namesOf_at HL.out])
      go_wp2_with (at_builtin; refine app_str w _ k ((namesOf ss).take k) _ (nth ss k).name ?c0 rfl (.tmp 13) (.tmp 16) rfl rfl rfl ?c1 (by omega) ?_)
      case c0 => exact (HW.out.alloc _).alloc _
      case c1 => exact heap_new (by simp)
      intro v' w' how' hg'
      go_wp2_with fail
      go_roundw
      case rel => exact ⟨k + 1, by omega, by go_num, by rw [HT.out, List.map_append, List.map_take]; exact how'⟩
      case measure => simp [intOf]; omega
    · go_wp2_with fail
      go_ret
      obtain ⟨A', c', rfl, hrs⟩ := own_str HW.out.row
      have hk2 : k = n := by omega
      subst hk2
      rw [List.take_of_length_le (by rw [namesOf_len, HR.out.1]; omega)] at hrs
      exact ⟨_, _, rfl, hrs, HW.out.below⟩

set_option maxRecDepth 100000 in
theorem ready_any (A B : Option Addr) (n c m d : Nat) (ver : Int) (ss : List Step) (done : List Str) (lo lo' : Nat) (w : World) (hr : RStep w lo A n ss) (hok : okSteps ss) (hd : RStr w lo' B m done) (hm : m ≤ 1048576) :
    Calls Tryd.prog 81 #[.agg #[.int .i64 ver, .slice A n c], .slice B m d] w fun e w' => ∃ A' n' c', e = .returned (.slice A' n' c') ∧ RStr w' w.heap.size A' n' (rdyL ss done) ∧ Below w.heap.size w w' := by
  have hn : n ≤ 1048576 := by have := hok.1; rw [hr.1] at this; exact this
  have HO := Lib.hid hok; clear hok
  have HR := Lib.hid hr; clear hr
  have HD := Lib.hid hd; clear hd
  go_enter Tryd.func81, Tryd.ntmps81
  go_wp2_with fail
  go_loopw [5, 11] (fun v i wr => ∃ k q : Nat, k ≤ n ∧ i = .int .i64 k ∧ q ≤ k ∧ Own 9 1 w wr v q ((rdyTo ss done k).map Value.string)) (fun _ i _ => n - (intOf i).toNat)
  case atStart => exact ⟨0, 0, Nat.zero_le _, rfl, Nat.le_refl _, ⟨World.ownsRow_nil _ _ _ _, (Below.refl _ _).alloc (Nat.le_refl _) _⟩⟩
  case round =>
    obtain ⟨k, q, hk, rfl, hq, how⟩ := hrel
    have HW := Lib.hid how; clear how
    by_cases hlt : k < n
    · obtain ⟨b, off, rfl, ⟨_, hbr⟩, hc⟩ := RStep.at_ (HR.out.below HW.out.below) hlt
      obtain ⟨A', n', c', ⟨c1, c2, c3⟩, ha, _⟩ := hc k hlt
      clear hc
      have HL := Lib.hid (show k < ss.length by rw [HR.out.1]; exact hlt)
      have hn' : n' ≤ 1048576 := by have := (HO.out.2 k HL.out).2.1; rw [ha.1] at this; exact this
      have HA := Lib.hid (ha.alloc (.cells #[.string (nth ss k).name, .slice A' n' c', .bool (nth ss k).undo] 25)); clear ha
      have HDW := Lib.hid ((HD.out.below HW.out.below).alloc (.cells #[.string (nth ss k).name, .slice A' n' c', .bool (nth ss k).undo] 25))
      rcases rdyB_ways done (nth ss k) with ⟨h1, h2⟩ | ⟨h1, h2⟩
      · have HT := Lib.hid (rdyTo_no HL.out h2); clear h2
        go_wp2_with (go_at_call 44; refine (contains_any _ _ _ done _ _ _ HDW.out hm).mono ?_; rintro e w' ⟨rfl, rfl⟩)
        go_roundw
        case rel => exact ⟨k + 1, q, by omega, by go_num, by omega, by rw [HT.out]; exact HW.out.alloc _⟩
        case measure => simp [intOf]; omega
      · have H2 := Lib.hid h2; clear h2
        cases h4 : haveB done (nth ss k).after
        · have HT := Lib.hid (rdyTo_no HL.out (H2.out.symm.trans h4))
          go_wp2_with (first | (go_at_call 44; refine (contains_any _ _ _ done _ _ _ HDW.out hm).mono ?_; rintro e w' ⟨rfl, rfl⟩) | (go_at_call 66; refine (namesHave_any _ _ _ _ _ _ done _ _ _ _ HDW.out hm HA.out hn').mono ?_; rintro e w' ⟨rfl, rfl⟩))
          go_roundw
          case rel => exact ⟨k + 1, q, by omega, by go_num, by omega, by rw [HT.out]; exact HW.out.alloc _⟩
          case measure => simp [intOf]; omega
        · have HT := Lib.hid (rdyTo_yes HL.out (H2.out.symm.trans h4))
          go_wp2_with (first | (go_at_call 44; refine (contains_any _ _ _ done _ _ _ HDW.out hm).mono ?_; rintro e w' ⟨rfl, rfl⟩) | (go_at_call 66; refine (namesHave_any _ _ _ _ _ _ done _ _ _ _ HDW.out hm HA.out hn').mono ?_; rintro e w' ⟨rfl, rfl⟩) | (at_builtin; refine app_str w _ q (rdyTo ss done k) _ (nth ss k).name ?c0 rfl (.tmp 26) (.tmp 29) rfl rfl rfl ?c1 (by omega) ?_))
          case c0 => exact (HW.out.alloc _).alloc _
          case c1 => exact heap_new (by simp)
          intro v' w' how' hg'
          go_wp2_with fail
          go_roundw
          case rel => exact ⟨k + 1, q + 1, by omega, by go_num, by omega, by rw [HT.out, List.map_append]; exact how'⟩
          case measure => simp [intOf]; omega
    · go_wp2_with fail
      go_ret
      obtain ⟨A', c', rfl, hrs⟩ := own_str HW.out.row
      rw [rdyTo_all (by rw [HR.out.1]; omega)] at hrs
      exact ⟨_, _, _, rfl, hrs, HW.out.below⟩

def lenV : Value → Nat
  | .slice _ q _ => q
  | _ => 0

set_option maxRecDepth 100000 in
theorem order_any (A : Option Addr) (n c : Nat) (ver : Int) (ss : List Step) (lo : Nat) (w : World) (hr : RStep w lo A n ss) (hok : okSteps ss) :
    Calls Tryd.prog 67 #[.agg #[.int .i64 ver, .slice A n c]] w fun e w' => ∃ A' c', e = .returned (.slice A' (ordL ss).length c') ∧ RStr w' w.heap.size A' (ordL ss).length (ordL ss) ∧ Below w.heap.size w w' := by
  have hn : n ≤ 1048576 := by have := hok.1; rw [hr.1] at this; exact this
  have HO := Lib.hid hok; clear hok
  have HR := Lib.hid hr; clear hr
  go_enter Tryd.func67, Tryd.ntmps67
  go_wp2_with fail
  go_loopw [3] (fun v wr => ∃ k : Nat, (ordTo ss k).length = k ∧ Own 9 1 w wr v k ((ordTo ss k).map Value.string) ∧ wr.heap[w.heap.size]? = some (.cells #[.int .i64 ver, .slice A n c] 38 (0, 0))) (fun v _ => n - lenV v)
  case atStart => exact ⟨0, rfl, ⟨World.ownsRow_nil _ _ _ _, (Below.refl _ _).alloc (Nat.le_refl _) _⟩, heap_new rfl⟩
  case round =>
    obtain ⟨k, hl, how, hbx⟩ := hrel
    have HL := Lib.hid hl; clear hl
    have HW := Lib.hid how; clear how
    have HBX := Lib.hid hbx; clear hbx
    obtain ⟨A1, c1, rfl, hrs⟩ := own_str HW.out.row
    have HRS := Lib.hid hrs; clear hrs
    have hkn : k ≤ n := by have := ordTo_len2 ss k; rw [HL.out, HR.out.1] at this; exact this
    have b1 := (blk_cl (k := 0) HBX.out rfl).1
    have b2 := (blk_cl (k := 1) HBX.out rfl).1
    go_wp2_with fail
    refine (ready_any _ _ _ _ _ _ _ ss (ordTo ss k) _ _ _ (HR.out.below HW.out.below) HO.out HRS.out (by omega)).mono ?_
    rintro e w2 ⟨A2, n2, c2, rfl, hr2, hb2⟩
    have HR2 := Lib.hid hr2; clear hr2
    have HB2 := Lib.hid hb2; clear hb2
    cases hrd : rdyL ss (ordTo ss k) with
    | nil =>
      have hn2 : n2 = 0 := by rw [← HR2.out.1, hrd]; rfl
      subst hn2
      have HE := Lib.hid (ordTo_end HL.out hrd)
      clear hrd b1 b2
      go_wp2_with fail
      go_ret
      have hk2 : k = (ordL ss).length := by rw [← HE.out]; exact HL.out.symm
      have HS := HRS.out.below HB2.out
      rw [HE.out] at HS
      subst hk2
      exact ⟨_, _, rfl, HS, HW.out.below.trans (HB2.out.mono HW.out.below.size)⟩
    | cons x r =>
      have hn2 : 0 < n2 := by rw [← HR2.out.1, hrd]; simp
      have hn3 : ((n2 : Int) == 0) = false := by rw [beq_eq_false_iff_ne]; omega
      have HT := Lib.hid (show ordTo ss (k + 1) = ordTo ss k ++ [x] from ordStep_cons hrd)
      have HX := Lib.hid (show nth (rdyL ss (ordTo ss k)) 0 = x by rw [hrd]; rfl)
      clear hrd b1 b2
      have HL1 := Lib.hid (show (ordTo ss (k + 1)).length = k + 1 by rw [HT.out, List.length_append, HL.out]; rfl)
      have hk1 : k + 1 ≤ n := by have := ordTo_len2 ss (k + 1); rw [HL1.out, HR.out.1] at this; exact this
      obtain ⟨b3, o3, rfl, ⟨hb3, hb4⟩, hc3⟩ := RStr.at_ HR2.out hn2
      have e1 := (hc3 0 hn2).1
      rw [Nat.add_zero, HX.out] at e1
      clear hc3
      go_wp2_with (at_builtin; refine app_str w _ k (ordTo ss k) _ x ?c0 rfl (.tmp 12) (.tmp 16) rfl rfl rfl ?c1 (by omega) ?_)
      case c0 => exact (HW.out.below_ HB2.out).alloc _
      case c1 => exact heap_new rfl
      intro v' w' how' hg'
      obtain ⟨A4, c4, hv4, _⟩ := own_form how'.row
      subst hv4
      have HO4 := Lib.hid how'; clear how'
      have HG4 := Lib.hid hg'; clear hg'
      go_wp2_with fail
      go_roundw
      case rel =>
        refine ⟨k + 1, HL1.out, by rw [HT.out, List.map_append]; exact HO4.out, ?_⟩
        refine grown_blk HG4.out (heap_old ((HB2.out.block _ (heap_lt HBX.out)).trans HBX.out)) ?_
        intro e
        have := (HW.out.row.lt _ e).1
        exact row_ne HW.out.row HBX.out (by decide) e
      case measure => simp [lenV]; omega
end Go.Proofs.YthdfefgianokgaaDoor

/- Flows that are valid. -/
namespace Go.Proofs.YthdfefgianokgaaDoor
open Go.RowKit

/-- The program's way to ask whether a flow is valid. -/
theorem flowB_iff2 {f : Flow} : flowB f = true ↔ (1 ≤ f.ver ∧ f.ver ≤ 99) ∧ (1 ≤ f.steps.length ∧ f.steps.length ≤ 8) ∧ ascB (namesOf f.steps) = true ∧
    (∀ j, j < f.steps.length → (stepB (nth f.steps j) && haveB (namesOf f.steps) (nth f.steps j).after) = true) ∧ (ordL f.steps).length = f.steps.length := by
  rw [flowB_iff]
  constructor
  · rintro ⟨h1, h2, h3, h4⟩
    refine ⟨h2, h3, ?_, ?_, h4⟩
    · refine allN_iff.2 ?_
      intro j hj
      rw [namesOf_len] at hj
      have := h1 j hj
      simp only [stepAt, stepB, Bool.and_eq_true] at this
      unfold ascAt
      rw [namesOf_at hj, this.1.1.1.1.2]
      by_cases h0 : j = 0
      · simp [h0]
      · rw [namesOf_at (by omega)]; rw [this.1.2]; rfl
    · intro j hj
      have := h1 j hj
      simp only [stepAt, Bool.and_eq_true] at this ⊢
      exact ⟨this.1.1, this.2⟩
  · rintro ⟨h2, h3, h5, h1, h4⟩
    refine ⟨?_, h2, h3, h4⟩
    intro j hj
    have e1 := h1 j hj
    have e2 := allN_iff.1 h5 j (by rw [namesOf_len]; exact hj)
    unfold ascAt at e2
    rw [namesOf_at hj] at e2
    simp only [Bool.and_eq_true] at e1 e2
    unfold stepAt
    simp only [Bool.and_eq_true]
    refine ⟨⟨e1.1, ?_⟩, e1.2⟩
    by_cases h0 : j = 0
    · simp [h0]
    · rw [namesOf_at (by omega)] at e2; exact e2.2

theorem flowB_no {f : Flow} (h : ¬ ((1 ≤ f.ver ∧ f.ver ≤ 99) ∧ (1 ≤ f.steps.length ∧ f.steps.length ≤ 8) ∧ ascB (namesOf f.steps) = true ∧
    (∀ j, j < f.steps.length → (stepB (nth f.steps j) && haveB (namesOf f.steps) (nth f.steps j).after) = true) ∧ (ordL f.steps).length = f.steps.length)) : flowB f = false := by
  cases e : flowB f
  · rfl
  · exact absurd (flowB_iff2.1 e) h

theorem flow_waysI (f : Flow) : (f.ver < 1 ∨ (1 ≤ f.ver ∧ (99 < f.ver ∨ (f.ver ≤ 99 ∧ (f.steps.length < 1 ∨ (1 ≤ f.steps.length ∧ (8 < f.steps.length ∨ (f.steps.length ≤ 8 ∧ (ascB (namesOf f.steps) = false ∨ ascB (namesOf f.steps) = true))))))))) := by
  by_cases h1 : f.ver < 1
  · exact .inl h1
  refine .inr ⟨by omega, ?_⟩
  by_cases h2 : 99 < f.ver
  · exact .inl h2
  refine .inr ⟨by omega, ?_⟩
  by_cases h3 : f.steps.length < 1
  · exact .inl h3
  refine .inr ⟨by omega, ?_⟩
  by_cases h4 : 8 < f.steps.length
  · exact .inl h4
  refine .inr ⟨by omega, ?_⟩
  cases ascB (namesOf f.steps)
  · exact .inl rfl
  · exact .inr rfl

set_option maxRecDepth 100000 in
set_option maxHeartbeats 1000000 in
theorem flowI_any (A : Option Addr) (n c : Nat) (f : Flow) (lo : Nat) (w : World) (hr : RStep w lo A n f.steps) (hok : okSteps f.steps) :
    Calls Tryd.prog 46 #[.agg #[.int .i64 f.ver, .slice A n c]] w fun e w' => e = .returned (.bool (flowB f)) ∧ Below w.heap.size w w' := by
  have hn : n ≤ 1048576 := by have := hok.1; rw [hr.1] at this; exact this
  have HO := Lib.hid hok; clear hok
  have HR := Lib.hid hr; clear hr
  have HL := Lib.hid (show f.steps.length = n from HR.out.1)
  have HS := Lib.hid (flow_waysI f)
  rw [HL.out] at HS
  have HB := Lib.hid (fun o => (Below.refl w.heap.size w).alloc (Nat.le_refl _) o)
  rcases HS.out with h1 | ⟨h1, h2 | ⟨h2, h3 | ⟨h3, h4 | ⟨h4, h5 | h5⟩⟩⟩⟩
  · have HG := Lib.hid (flowB_no (f := f) (by rintro ⟨a, _⟩; omega))
    go_enter Tryd.func46, Tryd.ntmps46
    go_wp2_with fail
    go_ret
    exact ⟨ret_b (by rw [HG.out]), HB.out _⟩
  · have HG := Lib.hid (flowB_no (f := f) (by rintro ⟨a, _⟩; omega))
    go_enter Tryd.func46, Tryd.ntmps46
    go_wp2_with fail
    go_ret
    exact ⟨ret_b (by rw [HG.out]), HB.out _⟩
  · have HG := Lib.hid (flowB_no (f := f) (by rintro ⟨_, a, _⟩; have := HL.out; omega))
    go_enter Tryd.func46, Tryd.ntmps46
    go_wp2_with fail
    go_ret
    exact ⟨ret_b (by rw [HG.out]), HB.out _⟩
  · have HG := Lib.hid (flowB_no (f := f) (by rintro ⟨_, a, _⟩; have := HL.out; omega))
    go_enter Tryd.func46, Tryd.ntmps46
    go_wp2_with fail
    go_ret
    exact ⟨ret_b (by rw [HG.out]), HB.out _⟩
  · have HG := Lib.hid (flowB_no (f := f) (by rintro ⟨_, _, a, _⟩; rw [h5] at a; cases a))
    have H5 := Lib.hid h5; clear h5
    have h8 : n ≤ 8 := h4
    go_enter Tryd.func46, Tryd.ntmps46
    go_wp2_with fail
    refine (names_any _ _ _ _ f.steps _ _ (HR.out.alloc _) hn).mono ?_
    rintro e w1 ⟨A1, c1, rfl, hr1, hb1⟩
    have HR1 := Lib.hid hr1; clear hr1
    have HB1 := Lib.hid hb1; clear hb1
    go_wp2_with fail
    refine (namesAscend_any _ _ _ _ _ _ HR1.out (namesOf_ok HO.out)).mono ?_
    rintro e w2 ⟨rfl, rfl⟩
    rw [H5.out]
    go_wp2_with fail
    go_ret
    exact ⟨ret_b (by rw [HG.out]), (HB.out _).trans (HB1.out.mono (by simp))⟩
  · have H5 := Lib.hid h5; clear h5
    have h8 : n ≤ 8 := h4
    have H1 := Lib.hid (show (1 ≤ f.ver ∧ f.ver ≤ 99) ∧ (1 ≤ f.steps.length ∧ f.steps.length ≤ 8) from ⟨⟨h1, h2⟩, by rw [HL.out]; exact ⟨h3, h4⟩⟩)
    go_enter Tryd.func46, Tryd.ntmps46
    go_wp2_with fail
    refine (names_any _ _ _ _ f.steps _ _ (HR.out.alloc _) hn).mono ?_
    rintro e w1 ⟨A1, c1, rfl, hr1, hb1⟩
    have HR1 := Lib.hid hr1; clear hr1
    have HB1 := Lib.hid ((HB.out (.cells #[.int .i64 f.ver, .slice A n c] 38)).trans (hb1.mono (by simp)))
    have HX1 := Lib.hid (show w1.heap[w.heap.size]? = some (.cells #[.int .i64 f.ver, .slice A n c] 38 (0, 0)) from (hb1.block _ (by simp)).trans (heap_new rfl))
    clear hb1
    go_wp2_with fail
    refine (namesAscend_any _ _ _ _ _ _ HR1.out (namesOf_ok HO.out)).mono ?_
    rintro e w2 ⟨rfl, rfl⟩
    rw [H5.out]
    have b1 := (blk_cl (k := 0) HX1.out rfl).1
    have b2 := (blk_cl (k := 1) HX1.out rfl).1
    go_wp2_with fail
    clear b1 b2
    go_loopw [34] (fun i wr => ∃ k : Nat, k ≤ n ∧ i = .int .i64 k ∧ wr.heap[w.heap.size]? = some (.cells #[.int .i64 f.ver, .slice A n c] 38 (0, 0)) ∧ Below w.heap.size w wr ∧ ∀ j, j < k → (stepB (nth f.steps j) && haveB (namesOf f.steps) (nth f.steps j).after) = true) (fun i _ => n - (intOf i).toNat)
    case atStart => exact ⟨0, Nat.zero_le _, rfl, HX1.out, HB1.out, fa_zero⟩
    case round =>
      obtain ⟨k, hk, rfl, hx, hb, hp⟩ := hrel
      have HX := Lib.hid hx; clear hx
      have HBR := Lib.hid hb; clear hb
      have HP := Lib.hid hp; clear hp
      have b1 := (blk_cl (k := 0) HX.out rfl).1
      have b2 := (blk_cl (k := 1) HX.out rfl).1
      by_cases hlt : k < n
      · obtain ⟨b, off, rfl, ⟨_, hbr⟩, hc⟩ := RStep.at_ (HR.out.below HBR.out) hlt
        obtain ⟨A', n', c', ⟨c1, c2, c3⟩, ha, _⟩ := hc k hlt
        clear hc
        have HL1 := Lib.hid (show k < f.steps.length by rw [HL.out]; exact hlt)
        have hso := HO.out.2 k HL1.out
        have hn' : n' ≤ 1048576 := by have := hso.2.1; rw [ha.1] at this; exact this
        have HSO := Lib.hid hso; clear hso
        have HA := Lib.hid (ha.alloc (.cells #[.string (nth f.steps k).name, .slice A' n' c', .bool (nth f.steps k).undo] 25)); clear ha
        have HRK := Lib.hid ((HR.out.below HBR.out).alloc (.cells #[.string (nth f.steps k).name, .slice A' n' c', .bool (nth f.steps k).undo] 25))
        have HBW := Lib.hid (HBR.out.alloc HBR.out.size (.cells #[.string (nth f.steps k).name, .slice A' n' c', .bool (nth f.steps k).undo] 25))
        have HXK := Lib.hid (show (wr.alloc (.cells #[.string (nth f.steps k).name, .slice A' n' c', .bool (nth f.steps k).undo] 25)).heap[w.heap.size]? = some (.cells #[.int .i64 f.ver, .slice (some ⟨b, off, none⟩) n c] 38 (0, 0)) from heap_old HX.out)
        have HYK := Lib.hid (show (wr.alloc (.cells #[.string (nth f.steps k).name, .slice A' n' c', .bool (nth f.steps k).undo] 25)).heap[wr.heap.size]? = some (.cells #[.string (nth f.steps k).name, .slice A' n' c', .bool (nth f.steps k).undo] 25 (0, 0)) from heap_new rfl)
        have hwx : w.heap.size < (wr.alloc (.cells #[.string (nth f.steps k).name, .slice A' n' c', .bool (nth f.steps k).undo] 25)).heap.size := heap_lt HXK.out
        have hwy : wr.heap.size < (wr.alloc (.cells #[.string (nth f.steps k).name, .slice A' n' c', .bool (nth f.steps k).undo] 25)).heap.size := heap_lt HYK.out
        have HSB : Hid (∀ w', Below (wr.alloc (.cells #[.string (nth f.steps k).name, .slice A' n' c', .bool (nth f.steps k).undo] 25)).heap.size (wr.alloc (.cells #[.string (nth f.steps k).name, .slice A' n' c', .bool (nth f.steps k).undo] 25)) w' →
            ((w'.cell? ⟨w.heap.size, 0, none⟩ = some (.int .i64 f.ver) ∧ w'.cell? ⟨w.heap.size, 1, none⟩ = some (.slice (some ⟨b, off, none⟩) n c)) ∧
            (w'.cell? ⟨wr.heap.size, 0, none⟩ = some (.string (nth f.steps k).name) ∧ w'.cell? ⟨wr.heap.size, 1, none⟩ = some (.slice A' n' c') ∧ w'.cell? ⟨wr.heap.size, 2, none⟩ = some (.bool (nth f.steps k).undo))) ∧
            Below (wr.alloc (.cells #[.string (nth f.steps k).name, .slice A' n' c', .bool (nth f.steps k).undo] 25)).heap.size (wr.alloc (.cells #[.string (nth f.steps k).name, .slice A' n' c', .bool (nth f.steps k).undo] 25)) w') := by
          intro w' hb
          have e1 := (hb.block _ hwx).trans HXK.out
          have e2 := (hb.block _ hwy).trans HYK.out
          exact ⟨⟨⟨(blk_cl (k := 0) e1 rfl).1, (blk_cl (k := 1) e1 rfl).1⟩, (blk_cl (k := 0) e2 rfl).1, (blk_cl (k := 1) e2 rfl).1, (blk_cl (k := 2) e2 rfl).1⟩, hb⟩
        cases h6 : stepB (nth f.steps k)
        · have HG := Lib.hid (flowB_no (f := f) (by rintro ⟨_, _, _, a, _⟩; have := a k HL1.out; rw [h6] at this; cases this))
          go_wp2_with fail
          clear c1 c2 c3 b1 b2
          generalize ewk : wr.alloc (.cells #[.string (nth f.steps k).name, .slice A' n' c', .bool (nth f.steps k).undo] 25) = wk at *
          have HSV : Hid (∀ w', Below wk.heap.size wk w' → Calls Tryd.prog 20 #[.agg #[.string (nth f.steps k).name, .slice A' n' c', .bool (nth f.steps k).undo]] w' fun e w'' => e = .returned (.bool false) ∧ Below w'.heap.size w' w'') := by
            intro w' hb
            have := stepI_any _ _ c' (nth f.steps k) _ _ (HA.out.below hb) HSO.out
            rw [h6] at this; exact this
          clear h6
          obtain ⟨⟨⟨x1, x2⟩, y1, y2, y3⟩, _⟩ := HSB.out wk (Below.refl _ _)
          (first | (go_region_with (go_at_call 20; refine (HSV.out _ (by first | exact (Below.refl _ _).drew | exact Below.refl _ _ | (go_split_ands; assumption))).mono ?_; rintro e w1 ⟨rfl, hbw⟩))
                 | fail "held")
          all_goals go_wp2_with fail
          all_goals go_ret
          all_goals exact ⟨ret_b (by rw [HG.out]), HBW.out.trans ((show Below wk.heap.size wk w1 from (Below.refl _ _).drew.trans (hbw.mono (Nat.le_refl _))).mono HBW.out.size)⟩
        · cases h7 : haveB (namesOf f.steps) (nth f.steps k).after
          · have HG := Lib.hid (flowB_no (f := f) (by rintro ⟨_, _, _, a, _⟩; have := a k HL1.out; rw [h6, h7] at this; cases this))
            go_wp2_with fail
            clear c1 c2 c3 b1 b2
            generalize ewk : wr.alloc (.cells #[.string (nth f.steps k).name, .slice A' n' c', .bool (nth f.steps k).undo] 25) = wk at *
            have HSV : Hid (∀ w', Below wk.heap.size wk w' → Calls Tryd.prog 20 #[.agg #[.string (nth f.steps k).name, .slice A' n' c', .bool (nth f.steps k).undo]] w' fun e w'' => e = .returned (.bool true) ∧ Below w'.heap.size w' w'') := by
              intro w' hb
              have := stepI_any _ _ c' (nth f.steps k) _ _ (HA.out.below hb) HSO.out
              rw [h6] at this; exact this
            clear h6
            have HHV : Hid (∀ w', Below wk.heap.size wk w' → ∀ A2 c2 lo2, RStr w' lo2 A2 n (namesOf f.steps) → Calls Tryd.prog 66 #[.slice A2 n c2, .slice A' n' c'] w' fun e w'' => e = .returned (.bool false) ∧ w' = w'') := by
              intro w' hb A2 c2 lo2 h2
              have := namesHave_any _ _ _ c2 _ c' _ _ _ _ _ h2 (by omega) (HA.out.below hb) hn'
              rw [h7] at this; exact this
            clear h7
            go_region_held3 (fun w' => ((w'.cell? ⟨w.heap.size, 0, none⟩ = some (.int .i64 f.ver) ∧ w'.cell? ⟨w.heap.size, 1, none⟩ = some (.slice (some ⟨b, off, none⟩) n c)) ∧
            (w'.cell? ⟨wr.heap.size, 0, none⟩ = some (.string (nth f.steps k).name) ∧ w'.cell? ⟨wr.heap.size, 1, none⟩ = some (.slice A' n' c') ∧ w'.cell? ⟨wr.heap.size, 2, none⟩ = some (.bool (nth f.steps k).undo))) ∧
            Below wk.heap.size wk w')
              (first | exact HSB.out _ (Below.refl _ _).drew | exact HSB.out _ ((Below.refl _ _).drew.trans (hbw.mono (Nat.le_refl _))) | (go_split_ands; exact HSB.out _ ((show Below wk.heap.size wk _ by assumption).trans (hbw.mono (show Below wk.heap.size wk _ by assumption).size))) | go_keep)
              (first | (go_at_call 20; refine (HSV.out _ (by first | exact (Below.refl _ _).drew | (go_split_ands; assumption))).mono ?_; rintro e w1 ⟨rfl, hbw⟩) | (go_at_call 65; refine (names_any _ _ _ _ f.steps _ _ (HRK.out.below (by first | exact (Below.refl _ _).drew | (go_split_ands; assumption))) hn).mono ?_; rintro e w1 ⟨A2, c2, rfl, hr2, hbw⟩) | (go_at_call 66; refine (HHV.out _ (by first | exact (Below.refl _ _).drew | (go_split_ands; assumption)) _ _ _ (by assumption)).mono ?_; rintro e w1 ⟨rfl, rfl⟩))
            go_wp2_with fail
            go_ret
            exact ⟨ret_b (by rw [HG.out]), HBW.out.trans ((show Below wk.heap.size wk _ by (go_split_ands; assumption)).mono HBW.out.size)⟩
          · have HG := Lib.hid (show (stepB (nth f.steps k) && haveB (namesOf f.steps) (nth f.steps k).after) = true by rw [h6, h7]; rfl)
            go_wp2_with fail
            clear c1 c2 c3 b1 b2
            generalize ewk : wr.alloc (.cells #[.string (nth f.steps k).name, .slice A' n' c', .bool (nth f.steps k).undo] 25) = wk at *
            have HSV : Hid (∀ w', Below wk.heap.size wk w' → Calls Tryd.prog 20 #[.agg #[.string (nth f.steps k).name, .slice A' n' c', .bool (nth f.steps k).undo]] w' fun e w'' => e = .returned (.bool true) ∧ Below w'.heap.size w' w'') := by
              intro w' hb
              have := stepI_any _ _ c' (nth f.steps k) _ _ (HA.out.below hb) HSO.out
              rw [h6] at this; exact this
            clear h6
            have HHV : Hid (∀ w', Below wk.heap.size wk w' → ∀ A2 c2 lo2, RStr w' lo2 A2 n (namesOf f.steps) → Calls Tryd.prog 66 #[.slice A2 n c2, .slice A' n' c'] w' fun e w'' => e = .returned (.bool true) ∧ w' = w'') := by
              intro w' hb A2 c2 lo2 h2
              have := namesHave_any _ _ _ c2 _ c' _ _ _ _ _ h2 (by omega) (HA.out.below hb) hn'
              rw [h7] at this; exact this
            clear h7
            go_region_held3 (fun w' => ((w'.cell? ⟨w.heap.size, 0, none⟩ = some (.int .i64 f.ver) ∧ w'.cell? ⟨w.heap.size, 1, none⟩ = some (.slice (some ⟨b, off, none⟩) n c)) ∧
            (w'.cell? ⟨wr.heap.size, 0, none⟩ = some (.string (nth f.steps k).name) ∧ w'.cell? ⟨wr.heap.size, 1, none⟩ = some (.slice A' n' c') ∧ w'.cell? ⟨wr.heap.size, 2, none⟩ = some (.bool (nth f.steps k).undo))) ∧
            Below wk.heap.size wk w')
              (first | exact HSB.out _ (Below.refl _ _).drew | exact HSB.out _ ((Below.refl _ _).drew.trans (hbw.mono (Nat.le_refl _))) | (go_split_ands; exact HSB.out _ ((show Below wk.heap.size wk _ by assumption).trans (hbw.mono (show Below wk.heap.size wk _ by assumption).size))) | go_keep)
              (first | (go_at_call 20; refine (HSV.out _ (by first | exact (Below.refl _ _).drew | (go_split_ands; assumption))).mono ?_; rintro e w1 ⟨rfl, hbw⟩) | (go_at_call 65; refine (names_any _ _ _ _ f.steps _ _ (HRK.out.below (by first | exact (Below.refl _ _).drew | (go_split_ands; assumption))) hn).mono ?_; rintro e w1 ⟨A2, c2, rfl, hr2, hbw⟩) | (go_at_call 66; refine (HHV.out _ (by first | exact (Below.refl _ _).drew | (go_split_ands; assumption)) _ _ _ (by assumption)).mono ?_; rintro e w1 ⟨rfl, rfl⟩))
            go_wp2_with fail
            go_roundw
            case rel => 
              have hbk := (show Below wk.heap.size wk w1 by (go_split_ands; assumption))
              exact ⟨k + 1, by omega, by go_num, (hbk.block _ hwx).trans HXK.out, HBW.out.trans (hbk.mono HBW.out.size), fa_succ HP.out HG.out⟩
            case measure => simp [intOf]; omega
      · have HP' := Lib.hid (fun j (hj : j < f.steps.length) => HP.out j (by have := HL.out; omega))
        have hwx : w.heap.size < wr.heap.size := heap_lt HX.out
        have HRK := Lib.hid (HR.out.below HBR.out)
        have HSB : Hid (∀ w', Below wr.heap.size wr w' →
            (w'.cell? ⟨w.heap.size, 0, none⟩ = some (.int .i64 f.ver) ∧ w'.cell? ⟨w.heap.size, 1, none⟩ = some (.slice A n c)) ∧ Below wr.heap.size wr w') := by
          intro w' hb
          have e1 := (hb.block _ hwx).trans HX.out
          exact ⟨⟨(blk_cl (k := 0) e1 rfl).1, (blk_cl (k := 1) e1 rfl).1⟩, hb⟩
        go_wp2_with fail
        clear b1 b2
        go_region_held3 (fun w' => (w'.cell? ⟨w.heap.size, 0, none⟩ = some (.int .i64 f.ver) ∧ w'.cell? ⟨w.heap.size, 1, none⟩ = some (.slice A n c)) ∧ Below wr.heap.size wr w')
          (first | exact HSB.out _ (Below.refl _ _).drew | exact HSB.out _ ((Below.refl _ _).drew.trans (hbw.mono (Nat.le_refl _))) | (go_split_ands; exact HSB.out _ ((show Below wr.heap.size wr _ by assumption).trans (hbw.mono (show Below wr.heap.size wr _ by assumption).size))) | go_keep)
          (first | (go_at_call 67; refine (order_any _ _ _ _ f.steps _ _ (HRK.out.below (by first | exact (Below.refl _ _).drew | (go_split_ands; assumption))) HO.out).mono ?_; rintro e w1 ⟨A2, c2, rfl, hr2, hbw⟩))
        go_wp2_with fail
        go_ret
        have hbk := (show Below wr.heap.size wr w1 by (go_split_ands; assumption))
        refine ⟨ret_b ?_, HBR.out.trans (hbk.mono HBR.out.size)⟩
        cases e : flowB f
        · rw [beq_eq_false_iff_ne]
          intro e2
          have := flowB_iff2.2 ⟨H1.out.1, H1.out.2, H5.out, HP'.out, by rw [HL.out]; omega⟩
          rw [e] at this; cases this
        · have := (flowB_iff2.1 e).2.2.2.2
          rw [HL.out] at this
          rw [beq_iff_eq]; omega
end Go.Proofs.YthdfefgianokgaaDoor

/- Flows that are valid: the reference. -/
namespace Go.Proofs.YthdfefgianokgaaDoor
open Go.RowKit

/-- A world in which memory was made beside w's. -/
structure Bl (w : World) where
  wd : World
  below : Below w.heap.size w wd

instance (w : World) : Nonempty (Bl w) := ⟨⟨w, Below.refl _ _⟩⟩

theorem region_bl {id : Nat} {Q : Exit → Act → World → Prop} {a : Act} {w : World} {l : List Oper} {P : Program} (hm : P.follows .mixedOrders = true) (hB : Region.lexB .any l.toArray = true)
    (h : wpQuiet P l.toArray (fun w' => ∃ x : Bl w, w' = x.wd) (fun a' => ∀ w', (∃ x : Bl w, w' = x.wd) → Q .normal a' w') l a) : (Code.region id l.toArray true).wp P Q a w :=
  wp_region_quiet (C := fun w' => ∃ x : Bl w, w' = x.wd) hm hB ⟨⟨_, (Below.refl _ _).drew⟩, rfl⟩ (by simpa using h)

theorem q_bl {P : Program} {wk : World} {x : Bl wk} {f : FuncId} {args : Array Value} {v : Value} (h : Calls P f args x.wd fun e w' => e = .returned v ∧ Below x.wd.heap.size x.wd w') :
    Calls P f args x.wd fun e w' => e = .returned v ∧ ∃ y : Bl wk, w' = y.wd :=
  h.mono fun _ w' ⟨he, hb⟩ => ⟨he, ⟨w', x.below.trans (hb.mono x.below.size)⟩, rfl⟩
theorem q_bl_same {P : Program} {wk : World} {x : Bl wk} {f : FuncId} {args : Array Value} {v : Value} (h : Calls P f args x.wd fun e w' => e = .returned v ∧ x.wd = w') :
    Calls P f args x.wd fun e w' => e = .returned v ∧ ∃ y : Bl wk, w' = y.wd :=
  h.mono fun _ _ ⟨he, hb⟩ => ⟨he, x, hb.symm⟩

theorem flowS_no {f : Flow} {k : Nat} (hk : k < f.steps.length) (h : stepAt f.steps k = false) : flowB f = false := by
  unfold flowB
  rw [allN_false hk h]; rfl

theorem stepAt_ways (ss : List Step) (k : Nat) : (stepB (nth ss k) = false ∧ stepAt ss k = false) ∨ (stepB (nth ss k) = true ∧
    ((k = 0 ∧ haveB (namesOf ss) (nth ss k).after = stepAt ss k) ∨ (0 < k ∧ ((strLt (nth ss (k - 1)).name (nth ss k).name = false ∧ stepAt ss k = false) ∨ (strLt (nth ss (k - 1)).name (nth ss k).name = true ∧ haveB (namesOf ss) (nth ss k).after = stepAt ss k))))) := by
  unfold stepAt
  cases h1 : stepB (nth ss k)
  · left; simp
  · right
    refine ⟨rfl, ?_⟩
    by_cases h0 : k = 0
    · left; refine ⟨h0, ?_⟩; simp [h0]
    · right
      refine ⟨by omega, ?_⟩
      cases h2 : strLt (nth ss (k - 1)).name (nth ss k).name
      · left; simp [h0]
      · right; simp

theorem name_size {ss : List Step} {j : Nat} (h : stepAt ss j = true) : 1 ≤ (nth ss j).name.size := by
  simp only [stepAt, stepB, nameB, Bool.and_eq_true, decide_eq_true_eq] at h
  omega

theorem have_bad {xs ys : List Str} {k : Nat} (hk : k < ys.length) (h : hasB xs (nth ys k) = false) : haveB xs ys = false := allN_false hk h

set_option maxRecDepth 100000 in
set_option maxHeartbeats 1000000 in
theorem flowS_any (A : Option Addr) (n c : Nat) (f : Flow) (lo : Nat) (w : World) (hr : RStep w lo A n f.steps) (hok : okSteps f.steps) :
    Calls Tryd.prog 50 #[.agg #[.int .i64 f.ver, .slice A n c]] w fun e w' => e = .returned (.bool (flowB f)) ∧ Below w.heap.size w w' := by
  have hn : n ≤ 1048576 := by have := hok.1; rw [hr.1] at this; exact this
  have HO := Lib.hid hok; clear hok
  have HR := Lib.hid hr; clear hr
  have HL := Lib.hid (show f.steps.length = n from HR.out.1)
  go_enter Tryd.func50, Tryd.ntmps50
  go_wp2_with fail
  go_loopw [3] (fun i wr => ∃ k : Nat, k ≤ n ∧ i = .int .i64 k ∧ wr.heap[w.heap.size]? = some (.cells #[.int .i64 f.ver, .slice A n c] 38 (0, 0)) ∧ Below w.heap.size w wr ∧ ∀ j, j < k → stepAt f.steps j = true) (fun i _ => n - (intOf i).toNat)
  case atStart => exact ⟨0, Nat.zero_le _, rfl, heap_new rfl, (Below.refl _ _).alloc (Nat.le_refl _) _, fa_zero⟩
  case round =>
    obtain ⟨k, hk, rfl, hx, hb, hp⟩ := hrel
    have HX := Lib.hid hx; clear hx
    have HBR := Lib.hid hb; clear hb
    have HP := Lib.hid hp; clear hp
    have b1 := (blk_cl (k := 0) HX.out rfl).1
    have b2 := (blk_cl (k := 1) HX.out rfl).1
    by_cases hlt : k < n
    · obtain ⟨b, off, rfl, ⟨_, hbr⟩, hc⟩ := RStep.at_ (HR.out.below HBR.out) hlt
      obtain ⟨A', n', c', ⟨c1, c2, c3⟩, ha, _⟩ := hc k hlt
      have hcp : 0 < k → wr.cell? ⟨b, off + (k - 1) * 3, none⟩ = some (.string (nth f.steps (k - 1)).name) := by
        intro h0
        obtain ⟨_, _, _, ⟨d1, _⟩, _⟩ := hc (k - 1) (by omega)
        exact d1
      clear hc
      have HCP := Lib.hid hcp; clear hcp
      have HL1 := Lib.hid (show k < f.steps.length by rw [HL.out]; exact hlt)
      have hso := HO.out.2 k HL1.out
      have hn' : n' ≤ 1048576 := by have := hso.2.1; rw [ha.1] at this; exact this
      have HSO := Lib.hid hso; clear hso
      have HA := Lib.hid (ha.alloc (.cells #[.string (nth f.steps k).name, .slice A' n' c', .bool (nth f.steps k).undo] 25)); clear ha
      have HRK := Lib.hid ((HR.out.below HBR.out).alloc (.cells #[.string (nth f.steps k).name, .slice A' n' c', .bool (nth f.steps k).undo] 25))
      have HBW := Lib.hid (HBR.out.alloc HBR.out.size (.cells #[.string (nth f.steps k).name, .slice A' n' c', .bool (nth f.steps k).undo] 25))
      have HXK := Lib.hid (show (wr.alloc (.cells #[.string (nth f.steps k).name, .slice A' n' c', .bool (nth f.steps k).undo] 25)).heap[w.heap.size]? = some (.cells #[.int .i64 f.ver, .slice (some ⟨b, off, none⟩) n c] 38 (0, 0)) from heap_old HX.out)
      have HYK := Lib.hid (show (wr.alloc (.cells #[.string (nth f.steps k).name, .slice A' n' c', .bool (nth f.steps k).undo] 25)).heap[wr.heap.size]? = some (.cells #[.string (nth f.steps k).name, .slice A' n' c', .bool (nth f.steps k).undo] 25 (0, 0)) from heap_new rfl)
      have HCK : Hid (0 < k → (wr.alloc (.cells #[.string (nth f.steps k).name, .slice A' n' c', .bool (nth f.steps k).undo] 25)).cell? ⟨b, off + (k - 1) * 3, none⟩ = some (.string (nth f.steps (k - 1)).name)) := fun h0 =>
        (((Below.refl wr.heap.size wr).alloc (Nat.le_refl _) (.cells #[.string (nth f.steps k).name, .slice A' n' c', .bool (nth f.steps k).undo] 25)).cell (p := ⟨b, _, none⟩) hbr).trans (HCP.out h0)
      have hwx : w.heap.size < (wr.alloc (.cells #[.string (nth f.steps k).name, .slice A' n' c', .bool (nth f.steps k).undo] 25)).heap.size := heap_lt HXK.out
      have hwy : wr.heap.size < (wr.alloc (.cells #[.string (nth f.steps k).name, .slice A' n' c', .bool (nth f.steps k).undo] 25)).heap.size := heap_lt HYK.out
      have hwb : b < (wr.alloc (.cells #[.string (nth f.steps k).name, .slice A' n' c', .bool (nth f.steps k).undo] 25)).heap.size := Nat.lt_trans hbr hwy
      go_wp2_with fail
      clear c1 c2 c3 b1 b2
      generalize ewk : wr.alloc (.cells #[.string (nth f.steps k).name, .slice A' n' c', .bool (nth f.steps k).undo] 25) = wk at *
      have X1 : ∀ x : Bl wk, x.wd.cell? ⟨w.heap.size, 0, none⟩ = some (.int .i64 f.ver) := fun x => (blk_cl (k := 0) ((x.below.block _ hwx).trans HXK.out) rfl).1
      have X2 : ∀ x : Bl wk, x.wd.cell? ⟨w.heap.size, 1, none⟩ = some (.slice (some ⟨b, off, none⟩) n c) := fun x => (blk_cl (k := 1) ((x.below.block _ hwx).trans HXK.out) rfl).1
      have Y1 : ∀ x : Bl wk, x.wd.cell? ⟨wr.heap.size, 0, none⟩ = some (.string (nth f.steps k).name) := fun x => (blk_cl (k := 0) ((x.below.block _ hwy).trans HYK.out) rfl).1
      have Y2 : ∀ x : Bl wk, x.wd.cell? ⟨wr.heap.size, 1, none⟩ = some (.slice A' n' c') := fun x => (blk_cl (k := 1) ((x.below.block _ hwy).trans HYK.out) rfl).1
      have Y3 : ∀ x : Bl wk, x.wd.cell? ⟨wr.heap.size, 2, none⟩ = some (.bool (nth f.steps k).undo) := fun x => (blk_cl (k := 2) ((x.below.block _ hwy).trans HYK.out) rfl).1
      have HSV := Lib.hid (fun x : Bl wk => stepS_any _ _ c' (nth f.steps k) _ _ (HA.out.below x.below) HSO.out)
      rcases stepAt_ways f.steps k with ⟨h1, h2⟩ | ⟨h1, ⟨h0, h2⟩ | ⟨h0, ⟨h3, h2⟩ | ⟨h3, h2⟩⟩⟩
      · have HG := Lib.hid (flowS_no HL1.out h2)
        rw [h1] at HSV
        clear h1 h2
        refine region_bl (by kernel_rfl) (by kernel_rfl) ?_
        repeat (go_big_quiet_step ((go_at_call 30; exact q_bl (HSV.out _))))
        refine wpQuiet_nil ?_
        intro _ hw'
        obtain ⟨x, rfl⟩ := hw'
        go_wp2_with fail
        go_ret
        exact ⟨ret_b (by rw [HG.out]), HBW.out.trans (x.below.mono HBW.out.size)⟩
      · have h5 : decide ((0 : Int) < (k : Int)) = false := by simp; omega
        have h6 : decide (0 < k) = false := by simp; omega
        have H2 := Lib.hid h2; clear h2
        rw [h1] at HSV
        clear h1 h0
        refine region_bl (by kernel_rfl) (by kernel_rfl) ?_
        repeat (go_big_quiet_step ((go_at_call 30; exact q_bl (HSV.out _))))
        refine wpQuiet_nil ?_
        intro _ hw'
        obtain ⟨x, rfl⟩ := hw'
        have HA2 := Lib.hid (HA.out.below x.below)
        have HB2 := Lib.hid (HBW.out.trans (x.below.mono HBW.out.size))
        have HX2 := Lib.hid ((x.below.block _ hwx).trans HXK.out)
        have HY2 := Lib.hid ((x.below.block _ hwy).trans HYK.out)
        have HRS := Lib.hid (HRK.out.below x.below)
        generalize x.wd = wi at *
        clear X1 X2 Y1 Y2 Y3 x HSV
        go_wp2_with fail
        go_loopw [5] (fun j wj => ∃ q m : Nat, q ≤ n' ∧ j = .int .i64 q ∧ wj = wi.drewN m ∧ ∀ i, i < q → hasB (namesOf f.steps) (nth (nth f.steps k).after i) = true) (fun j _ => n' - (intOf j).toNat)
        case atStart => exact ⟨0, 0, Nat.zero_le _, rfl, rfl, fa_zero⟩
        case round =>
          obtain ⟨q, m, hq, rfl, rfl, hp2⟩ := hrel
          have HP2 := Lib.hid hp2; clear hp2
          have y2 := (blk_cl (k := 1) HY2.out rfl).1
          have x2 := (blk_cl (k := 1) HX2.out rfl).1
          by_cases hj : q < n'
          · obtain ⟨b', off', rfl, ⟨_, hbr'⟩, hc⟩ := RStr.at_ HA2.out hj
            have e1 := (hc q hj).1
            clear hc
            have HL2 := Lib.hid (show q < (nth f.steps k).after.length by rw [HA2.out.1]; exact hj)
            have HAT := Lib.hid (fun z => l2At_any _ _ c f.steps (nth (nth f.steps k).after q) _ _ (HRS.out.drewN z) hn)
            cases h7 : hasB (namesOf f.steps) (nth (nth f.steps k).after q)
            · have HG := Lib.hid (flowS_no HL1.out (H2.out.symm.trans (have_bad HL2.out h7)))
              have h8 : decide (idxI (namesOf f.steps) (nth (nth f.steps k).after q) < 0) = true := by
                have := hasB_idx (namesOf f.steps) (nth (nth f.steps k).after q); rw [h7] at this
                simp only [decide_eq_false_iff_not, decide_eq_true_eq] at this ⊢; omega
              have h9 : idxI (namesOf f.steps) (nth (nth f.steps k).after q) < 0 := by simpa using h8
              clear h7
              go_wp2_with fail
              go_quiet ((go_at_call 70; exact q_same2 (HAT.out _)))
              go_wp2_with fail
              go_ret
              exact ⟨ret_b (by rw [HG.out]), by rw [World.drewN_drewN]; exact below_drewN HB2.out _⟩
            · have H7 := Lib.hid h7
              have h8 : decide (idxI (namesOf f.steps) (nth (nth f.steps k).after q) < 0) = false := by
                have := hasB_idx (namesOf f.steps) (nth (nth f.steps k).after q); rw [h7] at this
                simp only [decide_eq_false_iff_not, decide_eq_true_eq] at this ⊢; omega
              have h9 : 0 ≤ idxI (namesOf f.steps) (nth (nth f.steps k).after q) := by simpa using h8
              clear h7
              go_wp2_with fail
              go_quiet ((go_at_call 70; exact q_same2 (HAT.out _)))
              go_wp2_with fail
              go_roundw
              case rel => exact ⟨q + 1, _, by omega, by go_num, rfl, fa_succ HP2.out H7.out⟩
              case measure => simp [intOf]; omega
          · have HT := Lib.hid (show stepAt f.steps k = true by rw [← H2.out]; exact allN_true (fun j hj => HP2.out j (by have := HA2.out.1; omega)))
            go_wp2_with fail
            go_roundw
            case rel => exact ⟨k + 1, by omega, by go_num, by rw [World.heap_drewN]; exact HX2.out, below_drewN HB2.out _, fa_succ HP.out HT.out⟩
            case measure => simp [intOf]; omega
      · have h5 : decide ((0 : Int) < (k : Int)) = true := by simp; omega
        have h6 : decide (0 < k) = true := by simp; omega
        have h8 : Op.bytesLess (ByteArray.toList (nth f.steps (k - 1)).name) (ByteArray.toList (nth f.steps k).name) = false := h3
        have Z1 : ∀ x : Bl wk, x.wd.cell? ⟨b, off + (k - 1) * 3, none⟩ = some (.string (nth f.steps (k - 1)).name) := fun x => (x.below.cell (p := ⟨b, _, none⟩) hwb).trans (HCK.out h0)
        have HG := Lib.hid (flowS_no HL1.out h2)
        rw [h1] at HSV
        clear h1 h2 h3
        refine region_bl (by kernel_rfl) (by kernel_rfl) ?_
        repeat (go_big_quiet_step ((go_at_call 30; exact q_bl (HSV.out _))))
        refine wpQuiet_nil ?_
        intro _ hw'
        obtain ⟨x, rfl⟩ := hw'
        clear h8
        go_wp2_with fail
        go_ret
        exact ⟨ret_b (by rw [HG.out]), HBW.out.trans (x.below.mono HBW.out.size)⟩
      · have h5 : decide ((0 : Int) < (k : Int)) = true := by simp; omega
        have h6 : decide (0 < k) = true := by simp; omega
        have h8 : Op.bytesLess (ByteArray.toList (nth f.steps (k - 1)).name) (ByteArray.toList (nth f.steps k).name) = true := h3
        have Z1 : ∀ x : Bl wk, x.wd.cell? ⟨b, off + (k - 1) * 3, none⟩ = some (.string (nth f.steps (k - 1)).name) := fun x => (x.below.cell (p := ⟨b, _, none⟩) hwb).trans (HCK.out h0)
        have H2 := Lib.hid h2
        rw [h1] at HSV
        clear h1 h2 h3
        refine region_bl (by kernel_rfl) (by kernel_rfl) ?_
        repeat (go_big_quiet_step ((go_at_call 30; exact q_bl (HSV.out _))))
        refine wpQuiet_nil ?_
        intro _ hw'
        obtain ⟨x, rfl⟩ := hw'
        have HA2 := Lib.hid (HA.out.below x.below)
        have HB2 := Lib.hid (HBW.out.trans (x.below.mono HBW.out.size))
        have HX2 := Lib.hid ((x.below.block _ hwx).trans HXK.out)
        have HY2 := Lib.hid ((x.below.block _ hwy).trans HYK.out)
        have HRS := Lib.hid (HRK.out.below x.below)
        generalize x.wd = wi at *
        clear X1 X2 Y1 Y2 Y3 Z1 x HSV h8 h5 h6
        go_wp2_with fail
        go_loopw [5] (fun j wj => ∃ q m : Nat, q ≤ n' ∧ j = .int .i64 q ∧ wj = wi.drewN m ∧ ∀ i, i < q → hasB (namesOf f.steps) (nth (nth f.steps k).after i) = true) (fun j _ => n' - (intOf j).toNat)
        case atStart => exact ⟨0, 0, Nat.zero_le _, rfl, rfl, fa_zero⟩
        case round =>
          obtain ⟨q, m, hq, rfl, rfl, hp2⟩ := hrel
          have HP2 := Lib.hid hp2; clear hp2
          have y2 := (blk_cl (k := 1) HY2.out rfl).1
          have x2 := (blk_cl (k := 1) HX2.out rfl).1
          by_cases hj : q < n'
          · obtain ⟨b', off', rfl, ⟨_, hbr'⟩, hc⟩ := RStr.at_ HA2.out hj
            have e1 := (hc q hj).1
            clear hc
            have HL2 := Lib.hid (show q < (nth f.steps k).after.length by rw [HA2.out.1]; exact hj)
            have HAT := Lib.hid (fun z => l2At_any _ _ c f.steps (nth (nth f.steps k).after q) _ _ (HRS.out.drewN z) hn)
            cases h7 : hasB (namesOf f.steps) (nth (nth f.steps k).after q)
            · have HG := Lib.hid (flowS_no HL1.out (H2.out.symm.trans (have_bad HL2.out h7)))
              have h8 : decide (idxI (namesOf f.steps) (nth (nth f.steps k).after q) < 0) = true := by
                have := hasB_idx (namesOf f.steps) (nth (nth f.steps k).after q); rw [h7] at this
                simp only [decide_eq_false_iff_not, decide_eq_true_eq] at this ⊢; omega
              have h9 : idxI (namesOf f.steps) (nth (nth f.steps k).after q) < 0 := by simpa using h8
              clear h7
              go_wp2_with fail
              go_quiet ((go_at_call 70; exact q_same2 (HAT.out _)))
              go_wp2_with fail
              go_ret
              exact ⟨ret_b (by rw [HG.out]), by rw [World.drewN_drewN]; exact below_drewN HB2.out _⟩
            · have H7 := Lib.hid h7
              have h8 : decide (idxI (namesOf f.steps) (nth (nth f.steps k).after q) < 0) = false := by
                have := hasB_idx (namesOf f.steps) (nth (nth f.steps k).after q); rw [h7] at this
                simp only [decide_eq_false_iff_not, decide_eq_true_eq] at this ⊢; omega
              have h9 : 0 ≤ idxI (namesOf f.steps) (nth (nth f.steps k).after q) := by simpa using h8
              clear h7
              go_wp2_with fail
              go_quiet ((go_at_call 70; exact q_same2 (HAT.out _)))
              go_wp2_with fail
              go_roundw
              case rel => exact ⟨q + 1, _, by omega, by go_num, rfl, fa_succ HP2.out H7.out⟩
              case measure => simp [intOf]; omega
          · have HT := Lib.hid (show stepAt f.steps k = true by rw [← H2.out]; exact allN_true (fun j hj => HP2.out j (by have := HA2.out.1; omega)))
            go_wp2_with fail
            go_roundw
            case rel => exact ⟨k + 1, by omega, by go_num, by rw [World.heap_drewN]; exact HX2.out, below_drewN HB2.out _, fa_succ HP.out HT.out⟩
            case measure => simp [intOf]; omega
    · have HP' := Lib.hid (fun j (hj : j < f.steps.length) => HP.out j (by have := HL.out; omega))
      have HAL := Lib.hid (show allN f.steps.length (stepAt f.steps) = true from allN_true HP'.out)
      have HRK := Lib.hid (HR.out.below HBR.out)
      have hwx : w.heap.size < wr.heap.size := heap_lt HX.out
      have HNE := Lib.hid (fun j (hj : j < n) => name_size (HP'.out j (by rw [HL.out]; exact hj)))
      have HG := Lib.hid (show flowB f = (inB f.ver 1 99 && inB n 1 8 && decide ((ordL f.steps).length = n)) by unfold flowB; rw [HAL.out, HL.out, Bool.true_and])
      cases h1 : inB f.ver 1 99
      · have H1 := Lib.hid (fun z => l6In_any f.ver 1 99 (wr.drewN z)) 
        rw [h1] at H1 HG
        clear h1
        go_wp2_with fail
        go_quiet ((go_at_call 71; exact q_same (H1.out _)))
        go_wp2_with fail
        go_ret
        exact ⟨ret_b (by rw [HG.out]; rfl), below_drewN HBR.out _⟩
      have H1 := Lib.hid (fun z : World => l6In_any f.ver 1 99 z)
      have H2 := Lib.hid (fun z : World => l6In_any n 1 8 z)
      rw [h1] at H1 HG
      clear h1
      cases h2 : inB n 1 8
      · rw [h2] at H2 HG
        clear h2
        go_wp2_with fail
        go_quiet ((first | (go_at_call_of 71 (Value.int .i64 f.ver); exact q_same (H1.out _)) | (go_at_call 71; exact q_same (H2.out _))))
        go_wp2_with fail
        go_ret
        exact ⟨ret_b (by rw [HG.out]; rfl), below_drewN HBR.out _⟩
      · rw [h2] at H2 HG
        clear h2
        have HSB : Hid (∀ w', Below wr.heap.size wr w' →
            (w'.cell? ⟨w.heap.size, 0, none⟩ = some (.int .i64 f.ver) ∧ w'.cell? ⟨w.heap.size, 1, none⟩ = some (.slice A n c)) ∧ Below wr.heap.size wr w') := by
          intro w' hb
          have e1 := (hb.block _ hwx).trans HX.out
          exact ⟨⟨(blk_cl (k := 0) e1 rfl).1, (blk_cl (k := 1) e1 rfl).1⟩, hb⟩
        go_wp2_with fail
        clear b1 b2
        go_region_held3 (fun w' => (w'.cell? ⟨w.heap.size, 0, none⟩ = some (.int .i64 f.ver) ∧ w'.cell? ⟨w.heap.size, 1, none⟩ = some (.slice A n c)) ∧ Below wr.heap.size wr w')
          (first | exact HSB.out _ (Below.refl _ _).drew | exact HSB.out _ ((Below.refl _ _).drew.trans (hbw.mono (Nat.le_refl _))) | (go_split_ands; exact HSB.out _ ((show Below wr.heap.size wr _ by assumption).trans (hbw.mono (show Below wr.heap.size wr _ by assumption).size))) | go_keep)
          (first | (go_at_call_of 71 (Value.int .i64 f.ver); refine (H1.out _).mono ?_; rintro e w1 ⟨rfl, rfl⟩) | (go_at_call 71; refine (H2.out _).mono ?_; rintro e w1 ⟨rfl, rfl⟩) | (go_at_call 72; refine (l2Order_any _ _ _ f.steps _ _ (HRK.out.below (by first | exact (Below.refl _ _).drew | (go_split_ands; assumption))) HO.out HNE.out).mono ?_; rintro e w1 ⟨A2, c2, rfl, hr2, hbw⟩))
        go_wp2_with fail
        go_ret
        have hbk := (show Below wr.heap.size wr w1 by (go_split_ands; assumption))
        refine ⟨ret_b ?_, HBR.out.trans (hbk.mono HBR.out.size)⟩
        rw [HG.out, Bool.true_and, Bool.true_and]
        rw [Bool.eq_iff_iff, beq_iff_eq, decide_eq_true_eq]
        omega
end Go.Proofs.YthdfefgianokgaaDoor

/- What of a flow is ready: both. -/
namespace Go.Proofs.YthdfefgianokgaaDoor
open Go.RowKit

def readyF (f : Flow) (done : List Str) : List Str := if flowB f then rdyL f.steps done else []
theorem readyF_yes {f : Flow} {done : List Str} (h : flowB f = true) : readyF f done = rdyL f.steps done := by unfold readyF; rw [h]; rfl
theorem readyF_no {f : Flow} {done : List Str} (h : flowB f = false) : readyF f done = [] := by unfold readyF; rw [h]; rfl

end Go.Proofs.YthdfefgianokgaaDoor

/- Texts of steps: both. -/
namespace Go.Proofs.YthdfefgianokgaaDoor
open Go.RowKit

/-- The first k names with commas between them. -/
def jnS (xs : List Str) : Nat → Str
  | 0 => ⟨#[]⟩
  | k + 1 => (if 0 < k then jnS xs k ++ ⟨#[44]⟩ else jnS xs k) ++ nth xs k
def namesS (xs : List Str) : Str := if xs.length = 0 then ⟨#[45]⟩ else jnS xs xs.length
def stepS (s : Step) : Str := if s.undo then s.name ++ ⟨#[58]⟩ ++ namesS s.after else (s.name ++ ⟨#[58]⟩ ++ namesS s.after) ++ ⟨#[33]⟩
def textS (s : Step) : Str := if stepB s then stepS s else ⟨#[]⟩

theorem bl_app (a b : Str) : (a ++ b).data.toList = a.data.toList ++ b.data.toList := by simp
theorem bsz_app (a b : Str) : (a ++ b).size = a.size + b.size := by simp
theorem join_snoc (l : List (List UInt8)) (z sep : List UInt8) (h : l ≠ []) : Lib.join (l ++ [z]) sep = Lib.join l sep ++ sep ++ z := by
  cases l with
  | nil => exact absurd rfl h
  | cons x r =>
    rw [List.cons_append, Lib.join_cons, Lib.join_cons]
    simp [Lib.joinTail]
theorem jnS_list {xs : List Str} : ∀ k, k < xs.length → (jnS xs (k + 1)).data.toList = Lib.join ((xs.take (k + 1)).map (·.data.toList)) [44]
  | 0, h => by
    rw [take_nth h]
    show (jnS xs 0 ++ nth xs 0).data.toList = _
    rw [bl_app]
    simp [Lib.join_one, jnS]
  | k + 1, h => by
    rw [take_nth h, List.map_append]
    show ((if 0 < k + 1 then jnS xs (k + 1) ++ ⟨#[44]⟩ else jnS xs (k + 1)) ++ nth xs (k + 1)).data.toList = _
    rw [if_pos (by omega), bl_app, bl_app, jnS_list k (by omega)]
    have hne : (xs.take (k + 1)).map (·.data.toList) ≠ [] := by
      intro e
      have h2 : ((xs.take (k + 1)).map (·.data.toList)).length = 0 := by rw [e]; rfl
      rw [List.length_map, List.length_take] at h2
      omega
    show _ = Lib.join ((xs.take (k + 1)).map (·.data.toList) ++ [(nth xs (k + 1)).data.toList]) [44]
    rw [join_snoc _ _ _ hne]
theorem jnS_join {xs : List Str} (h : 0 < xs.length) : (⟨(Lib.join (xs.map (·.data.toList)) [44]).toArray⟩ : Str) = jnS xs xs.length := by
  have := jnS_list (xs := xs) (xs.length - 1) (by omega)
  rw [show xs.length - 1 + 1 = xs.length by omega, List.take_length] at this
  rw [← this]
theorem jnS_size {xs : List Str} {m : Nat} (h : ∀ j, j < xs.length → (nth xs j).size ≤ m) : ∀ k, k ≤ xs.length → (jnS xs k).size ≤ k * (m + 1)
  | 0, _ => Nat.zero_le _
  | k + 1, hk => by
    have h1 := jnS_size h k (by omega)
    have h2 := h k (by omega)
    show ((if 0 < k then jnS xs k ++ ⟨#[44]⟩ else jnS xs k) ++ nth xs k).size ≤ _
    rw [bsz_app, Nat.succ_mul]
    have h3 : (⟨#[44]⟩ : Str).size = 1 := rfl
    split
    · rw [bsz_app]; omega
    · omega

set_option maxRecDepth 100000 in
theorem namesTextI_any (A : Option Addr) (n c : Nat) (xs : List Str) (lo : Nat) (w : World) (hr : RStr w lo A n xs) (hc : n ≤ c) (hn : n ≤ 1000) (hs : ∀ j, j < n → (nth xs j).size ≤ 1000) :
    Calls Tryd.prog 29 #[.slice A n c] w fun e w' => e = .returned (.string (namesS xs)) ∧ Below w.heap.size w w' := by
  have HR := Lib.hid hr; clear hr
  have HS := Lib.hid hs; clear hs
  by_cases h0 : n < 1
  · have hz : ((n : Int) == 0) = true := by rw [beq_iff_eq]; omega
    have HE := Lib.hid (show namesS xs = ⟨#[45]⟩ by unfold namesS; rw [if_pos (by rw [HR.out.1]; omega)])
    go_enter Tryd.func29, Tryd.ntmps29
    go_wp2_with fail
    go_ret
    exact ⟨ret_s HE.out.symm, Below.refl _ _⟩
  · have hz : ((n : Int) == 0) = false := by rw [beq_eq_false_iff_ne]; omega
    obtain ⟨b, off, rfl, ⟨_, hb⟩, hcs⟩ := RStr.at_ HR.out (k := 0) (by omega)
    have hl := HR.out.1
    subst hl
    have HE := Lib.hid (show namesS xs = jnS xs xs.length by unfold namesS; rw [if_neg (by omega)])
    have HJ := Lib.hid (jnS_join (xs := xs) (by omega))
    have HCS : Hid (∀ (j : Nat) x, xs[j]? = some x → w.cell? ⟨b, off + j, none⟩ = some (.string x)) := fun j x hx => by
      obtain ⟨hj, e⟩ := List.getElem?_eq_some_iff.1 hx
      have := (hcs j hj).1
      rw [nth_eq hj, e] at this
      exact this
    clear hcs
    have HLEN : Hid ((Lib.join (xs.map (·.data.toList)) [44]).length ≤ 140737488355328) := by
      have h1 := jnS_size (xs := xs) (m := 1000) HS.out xs.length (Nat.le_refl _)
      rw [← HJ.out] at h1
      have h2 : xs.length * 1001 ≤ 1000 * 1001 := Nat.mul_le_mul_right _ hn
      have h3 : (⟨(Lib.join (xs.map (·.data.toList)) [44]).toArray⟩ : Str).size = (Lib.join (xs.map (·.data.toList)) [44]).length := by simp [ByteArray.size]
      rw [h3] at h1
      show _ ≤ 140737488355328
      omega
    go_enter Tryd.func29, Tryd.ntmps29
    go_wp2_with fail
    refine (Tryd.strings_Join b off c xs ⟨#[44]⟩ _ HCS.out hb (by omega) hc HLEN.out).mono ?_
    rintro e w1 ⟨rfl, hb1⟩
    have HB1 := Lib.hid hb1; clear hb1
    rw [show (Lib.join (xs.map (·.data.toList)) (⟨#[44]⟩ : ByteArray).data.toList) = Lib.join (xs.map (·.data.toList)) [44] from rfl, HJ.out]
    go_wp2_with fail
    go_ret
    exact ⟨ret_s HE.out.symm, HB1.out⟩

set_option maxRecDepth 100000 in
theorem l41Names_any (A : Option Addr) (n c : Nat) (xs : List Str) (lo : Nat) (w : World) (hr : RStr w lo A n xs) (hn : n ≤ 1000) (hs : ∀ j, j < n → (nth xs j).size ≤ 1000) :
    Calls Tryd.prog 59 #[.slice A n c] w fun e w' => e = .returned (.string (namesS xs)) ∧ w = w' := by
  have HR := Lib.hid hr; clear hr
  have HS := Lib.hid hs; clear hs
  by_cases h0 : n < 1
  · have hz : ((n : Int) == 0) = true := by rw [beq_iff_eq]; omega
    have HE := Lib.hid (show namesS xs = ⟨#[45]⟩ by unfold namesS; rw [if_pos (by rw [HR.out.1]; omega)])
    go_enter Tryd.func59, Tryd.ntmps59
    go_wp2_with fail
    go_ret
    exact ⟨ret_s HE.out.symm, rfl⟩
  · have hz : ((n : Int) == 0) = false := by rw [beq_eq_false_iff_ne]; omega
    have HE := Lib.hid (show namesS xs = jnS xs n by unfold namesS; rw [if_neg (by rw [HR.out.1]; omega), HR.out.1])
    go_enter Tryd.func59, Tryd.ntmps59
    go_wp2_with fail
    go_loop [3, 4] (fun o i => ∃ k : Nat, k ≤ n ∧ i = .int .i64 k ∧ o = .string (jnS xs k)) (fun _ i => n - (intOf i).toNat)
    case atStart => exact ⟨0, Nat.zero_le _, rfl, rfl⟩
    case round =>
      obtain ⟨k, hk, rfl, rfl⟩ := hrel
      by_cases hlt : k < n
      · obtain ⟨b, off, rfl, _, hcs⟩ := RStr.at_ HR.out hlt
        have c1 := (hcs k hlt).1
        clear hcs
        have q1 : (jnS xs k).size ≤ 1001000 := by
          have h1 := jnS_size (xs := xs) (m := 1000) (fun j hj => HS.out j (by rw [← HR.out.1]; exact hj)) k (by rw [HR.out.1]; omega)
          have h2 : k * 1001 ≤ 1000 * 1001 := Nat.mul_le_mul_right _ (by omega)
          omega
        have q2 := HS.out k hlt
        have HJ := Lib.hid (show jnS xs (k + 1) = (if 0 < k then jnS xs k ++ ⟨#[44]⟩ else jnS xs k) ++ nth xs k from rfl)
        by_cases hk0 : 0 < k
        · have hki : decide ((0 : Int) < (k : Int)) = true := by simp; omega
          have hkn : decide (0 < k) = true := by simp; omega
          go_wp2_with fail
          go_round
          case rel => exact ⟨k + 1, by omega, by go_num, by rw [HJ.out, if_pos hk0]⟩
          case measure => simp [intOf]; omega
        · have hki : decide ((0 : Int) < (k : Int)) = false := by simp; omega
          have hkn : decide (0 < k) = false := by simp; omega
          go_wp2_with fail
          go_round
          case rel => exact ⟨k + 1, by omega, by go_num, by rw [HJ.out, if_neg hk0]⟩
          case measure => simp [intOf]; omega
      · obtain rfl : k = n := by omega
        go_wp2_with fail
        go_ret
        exact ⟨ret_s HE.out.symm, rfl⟩

theorem namesS_size {xs : List Str} (h4 : xs.length ≤ 4) (h : ∀ j, j < xs.length → nameB (nth xs j) = true) : (namesS xs).size ≤ 24 := by
  unfold namesS
  split
  · show 1 ≤ 24; omega
  · have := jnS_size (xs := xs) (m := 5) (fun j hj => by
      have := h j hj
      unfold nameB at this
      simp only [Bool.and_eq_true, decide_eq_true_eq] at this
      omega) xs.length (Nat.le_refl _)
    have h2 : xs.length * (5 + 1) ≤ 4 * 6 := Nat.mul_le_mul_right _ h4
    omega
theorem nameB_size {s : Str} (h : nameB s = true) : 1 ≤ s.size ∧ s.size ≤ 5 := by
  unfold nameB at h
  simp only [Bool.and_eq_true, decide_eq_true_eq] at h
  omega
theorem stepB_sizes {s : Step} (h : stepB s = true) : s.after.length ≤ 4 ∧ (1 ≤ s.name.size ∧ s.name.size ≤ 5) ∧ ∀ j, j < s.after.length → nameB (nth s.after j) = true := by
  unfold stepB at h
  simp only [Bool.and_eq_true, decide_eq_true_eq] at h
  refine ⟨h.2, nameB_size h.1.1.2, fun j hj => ?_⟩
  have := allN_iff.1 h.1.1.1 j hj
  unfold ascAt at this
  simp only [Bool.and_eq_true] at this
  exact this.1

set_option maxRecDepth 100000 in
theorem stepTextI_any (A : Option Addr) (n c : Nat) (s : Step) (lo : Nat) (w : World) (hr : RStr w lo A n s.after) (hok : okStep s) (hc : n ≤ c) :
    Calls Tryd.prog 11 #[.agg #[.string s.name, .slice A n c, .bool s.undo]] w fun e w' => e = .returned (.string (textS s)) ∧ Below w.heap.size w w' := by
  have HR := Lib.hid hr; clear hr
  have HO := Lib.hid hok; clear hok
  cases h : stepB s
  · have HE := Lib.hid (show textS s = ⟨#[]⟩ by unfold textS; rw [if_neg (by rw [h]; simp)])
    go_enter Tryd.func11, Tryd.ntmps11
    go_wp2_with fail
    refine (stepI_any _ _ _ s _ _ (HR.out.alloc _) HO.out).mono ?_
    rintro e w1 ⟨rfl, hb⟩
    rw [h]
    clear h
    go_wp2_with fail
    go_ret
    exact ⟨ret_s HE.out.symm, ((Below.refl _ _).alloc (Nat.le_refl _) _).trans (hb.mono (by simp))⟩
  · have HE := Lib.hid (show textS s = stepS s by unfold textS; rw [if_pos h])
    obtain ⟨hn4, hz, hnm⟩ := stepB_sizes h
    have HNM := Lib.hid hnm; clear hnm
    have hn4' : n ≤ 4 := by rw [← HR.out.1]; exact hn4
    go_enter Tryd.func11, Tryd.ntmps11
    go_wp2_with fail
    refine (stepI_any _ _ _ s _ _ (HR.out.alloc _) HO.out).mono ?_
    rintro e w1 ⟨rfl, hb⟩
    rw [h]
    have q1 := hz.2
    have q2 := namesS_size hn4 HNM.out
    clear h hn4 hz
    have HB := Lib.hid (((Below.refl w.heap.size w).alloc (Nat.le_refl _) (.cells #[.string s.name, .slice A n c, .bool s.undo] 25)).trans (hb.mono (by simp)))
    have HX := Lib.hid ((hb.block w.heap.size (by simp)).trans (heap_new (w := w) (o := .cells #[.string s.name, .slice A n c, .bool s.undo] 25) rfl))
    clear hb
    have hwx := heap_lt HX.out
    have HNT := Lib.hid (fun x : Bl w1 => namesTextI_any A n c s.after _ x.wd ((HR.out.below HB.out).below x.below) hc (by omega) (fun j hj => by have := (nameB_size (HNM.out j (by rw [HR.out.1]; exact hj))).2; omega))
    have X0 : ∀ x : Bl w1, x.wd.cell? ⟨w.heap.size, 0, none⟩ = some (.string s.name) := fun x => (blk_cl (k := 0) ((x.below.block _ hwx).trans HX.out) rfl).1
    have X1 : ∀ x : Bl w1, x.wd.cell? ⟨w.heap.size, 1, none⟩ = some (.slice A n c) := fun x => (blk_cl (k := 1) ((x.below.block _ hwx).trans HX.out) rfl).1
    go_wp2_with fail
    refine region_bl (by kernel_rfl) (by kernel_rfl) ?_
    repeat (go_big_quiet_step ((go_at_call 29; exact q_bl (HNT.out _))))
    refine wpQuiet_nil ?_
    intro _ hw'
    obtain ⟨x, rfl⟩ := hw'
    have x2 := (blk_cl (k := 2) ((x.below.block _ hwx).trans HX.out) rfl).1
    have HB2 := Lib.hid (HB.out.trans (x.below.mono HB.out.size))
    clear X0 X1 HNT
    cases hu : s.undo
    · have HS := Lib.hid (show stepS s = (s.name ++ ⟨#[58]⟩ ++ namesS s.after) ++ ⟨#[33]⟩ by unfold stepS; rw [if_neg (by rw [hu]; simp)])
      rw [show (#[Value.string s.name, Value.slice A n c, Value.bool s.undo] : Array Value)[2] = .bool s.undo from rfl, hu] at x2
      go_wp2_with fail
      go_ret
      exact ⟨ret_s (by rw [HE.out, HS.out]), HB2.out⟩
    · have HS := Lib.hid (show stepS s = s.name ++ ⟨#[58]⟩ ++ namesS s.after by unfold stepS; rw [if_pos hu])
      rw [show (#[Value.string s.name, Value.slice A n c, Value.bool s.undo] : Array Value)[2] = .bool s.undo from rfl, hu] at x2
      go_wp2_with fail
      go_ret
      exact ⟨ret_s (by rw [HE.out, HS.out]), HB2.out⟩

set_option maxRecDepth 100000 in
theorem l41Step_any (A : Option Addr) (n c : Nat) (s : Step) (lo : Nat) (w : World) (hr : RStr w lo A n s.after) (h : stepB s = true) :
    Calls Tryd.prog 31 #[.agg #[.string s.name, .slice A n c, .bool s.undo]] w fun e w' => e = .returned (.string (stepS s)) ∧ Below w.heap.size w w' := by
  have HR := Lib.hid hr; clear hr
  obtain ⟨hn4, hz, hnm⟩ := stepB_sizes h
  have q1 := hz.2
  have q2 := namesS_size hn4 hnm
  have HNM := Lib.hid hnm; clear hnm h
  have hn4' : n ≤ 4 := by rw [← HR.out.1]; exact hn4
  have HB := Lib.hid ((Below.refl w.heap.size w).alloc (Nat.le_refl _) (.cells #[.string s.name, .slice A n c, .bool s.undo] 25))
  have HX := Lib.hid (heap_new (w := w) (o := .cells #[.string s.name, .slice A n c, .bool s.undo] 25) rfl)
  have HRA := Lib.hid (HR.out.alloc (.cells #[.string s.name, .slice A n c, .bool s.undo] 25))
  go_enter Tryd.func31, Tryd.ntmps31
  go_wp2_with fail
  generalize ewk : w.alloc (.cells #[.string s.name, .slice A n c, .bool s.undo] 25) = wk at *
  have hwx := heap_lt HX.out
  have HNT := Lib.hid (fun x : Bl wk => l41Names_any A n c s.after _ x.wd (HRA.out.below x.below) (by omega) (fun j hj => by have := (nameB_size (HNM.out j (by rw [HR.out.1]; exact hj))).2; omega))
  have X0 : ∀ x : Bl wk, x.wd.cell? ⟨w.heap.size, 0, none⟩ = some (.string s.name) := fun x => (blk_cl (k := 0) ((x.below.block _ hwx).trans HX.out) rfl).1
  have X1 : ∀ x : Bl wk, x.wd.cell? ⟨w.heap.size, 1, none⟩ = some (.slice A n c) := fun x => (blk_cl (k := 1) ((x.below.block _ hwx).trans HX.out) rfl).1
  clear ewk
  refine region_bl (by kernel_rfl) (by kernel_rfl) ?_
  repeat (go_big_quiet_step ((go_at_call 59; exact q_bl_same (HNT.out _))))
  refine wpQuiet_nil ?_
  intro _ hw'
  obtain ⟨x, rfl⟩ := hw'
  have x2 := (blk_cl (k := 2) ((x.below.block _ hwx).trans HX.out) rfl).1
  have HB2 := Lib.hid (HB.out.trans (x.below.mono HB.out.size))
  clear X0 X1 HNT
  cases hu : s.undo
  · have HS := Lib.hid (show stepS s = (s.name ++ ⟨#[58]⟩ ++ namesS s.after) ++ ⟨#[33]⟩ by unfold stepS; rw [if_neg (by rw [hu]; simp)])
    rw [show (#[Value.string s.name, Value.slice A n c, Value.bool s.undo] : Array Value)[2] = .bool s.undo from rfl, hu] at x2
    go_wp2_with fail
    go_ret
    exact ⟨ret_s (by rw [HS.out]), HB2.out⟩
  · have HS := Lib.hid (show stepS s = s.name ++ ⟨#[58]⟩ ++ namesS s.after by unfold stepS; rw [if_pos hu])
    rw [show (#[Value.string s.name, Value.slice A n c, Value.bool s.undo] : Array Value)[2] = .bool s.undo from rfl, hu] at x2
    go_wp2_with fail
    go_ret
    exact ⟨ret_s (by rw [HS.out]), HB2.out⟩

set_option maxRecDepth 100000 in
theorem stepTextS_any (A : Option Addr) (n c : Nat) (s : Step) (lo : Nat) (w : World) (hr : RStr w lo A n s.after) (hok : okStep s) :
    Calls Tryd.prog 12 #[.agg #[.string s.name, .slice A n c, .bool s.undo]] w fun e w' => e = .returned (.string (textS s)) ∧ Below w.heap.size w w' := by
  have HR := Lib.hid hr; clear hr
  have HO := Lib.hid hok; clear hok
  cases h : stepB s
  · have HE := Lib.hid (show textS s = ⟨#[]⟩ by unfold textS; rw [if_neg (by rw [h]; simp)])
    go_enter Tryd.func12, Tryd.ntmps12
    go_wp2_with fail
    refine (stepS_any _ _ _ s _ _ (HR.out.alloc _) HO.out).mono ?_
    rintro e w1 ⟨rfl, hb⟩
    rw [h]
    clear h
    go_wp2_with fail
    go_ret
    exact ⟨ret_s HE.out.symm, ((Below.refl _ _).alloc (Nat.le_refl _) _).trans (hb.mono (by simp))⟩
  · have HE := Lib.hid (show textS s = stepS s by unfold textS; rw [if_pos h])
    have HS := Lib.hid h
    go_enter Tryd.func12, Tryd.ntmps12
    go_wp2_with fail
    refine (stepS_any _ _ _ s _ _ (HR.out.alloc _) HO.out).mono ?_
    rintro e w1 ⟨rfl, hb⟩
    rw [h]
    clear h
    have HB := Lib.hid (((Below.refl w.heap.size w).alloc (Nat.le_refl _) (.cells #[.string s.name, .slice A n c, .bool s.undo] 25)).trans (hb.mono (by simp)))
    have HX := Lib.hid ((hb.block w.heap.size (by simp)).trans (heap_new (w := w) (o := .cells #[.string s.name, .slice A n c, .bool s.undo] 25) rfl))
    clear hb
    have b0 := (blk_cl (k := 0) HX.out rfl).1
    have b1 := (blk_cl (k := 1) HX.out rfl).1
    have b2 := (blk_cl (k := 2) HX.out rfl).1
    go_wp2_with fail
    refine (l41Step_any _ _ _ s _ _ (HR.out.below HB.out) HS.out).mono ?_
    rintro e w2 ⟨rfl, hb2⟩
    go_wp2_with fail
    go_ret
    exact ⟨ret_s HE.out.symm, HB.out.trans (hb2.mono HB.out.size)⟩
end Go.Proofs.YthdfefgianokgaaDoor
