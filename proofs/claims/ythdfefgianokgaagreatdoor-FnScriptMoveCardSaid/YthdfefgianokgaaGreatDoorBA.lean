/- Contracts of functions and plain lemmas, joined. No condition but those that each states. -/
import Derived.WalkKit
import Derived.WalkLawsBesides
import Derived.WalkSpells
import Derived.Deep.Draws
import Derived.Lib.Hide
import Derived.Deep.QuietTactic
import Derived.Test.YthdfefgianokgaaGreatDoorRows
import Derived.Maps.AppendAt
import Derived.BigQuiet
import Derived.Outline
import Derived.ProofKit
import Derived.Deep.RegionHeld3
import Derived.Deep.RegionLaw
import Derived.Test.YthdfefgianokgaaGreatDoorShelf
import Derived.Lib.Join
import Derived.Lib.SplitLaws
import Derived.Lib.Strings
import Derived.Lib.Split
import Derived.LaidMore
import Derived.Lay
import Derived.SevenTiedAt
import Derived.Stop.Joined
import Derived.SizedLaws
import Derived.Shelf.Strings.Builder1
import Derived.Shelf.Strings.Builder2

/- Words for memory and for lists: no program in sight. -/
namespace Go.Proofs.YthdfefgianokgaaGreatDoor
open Go.RowKit

abbrev Str := ByteArray

/-- A contract that leaves the world alone, or only draws, met in a quiet region. -/
theorem q_same {P : Program} {f : FuncId} {args : Array Value} {w : World} {n : Nat} {v : Value}
    (h : Calls P f args (w.drewN n) fun e w' => e = .returned v ∧ w.drewN n = w') : Calls P f args (w.drewN n) fun e w'' => e = .returned v ∧ ∃ m, w'' = w.drewN m :=
  h.mono fun _ _ ⟨he, hm⟩ => ⟨he, n, hm.symm⟩
theorem q_same2 {P : Program} {f : FuncId} {args : Array Value} {w : World} {a n : Nat} {v : Value}
    (h : Calls P f args (w.drewN (a + n)) fun e w' => e = .returned v ∧ w.drewN (a + n) = w') :
    Calls P f args (w.drewN (a + n)) fun e w'' => e = .returned v ∧ ∃ m, w'' = w.drewN (a + m) :=
  h.mono fun _ _ ⟨he, hm⟩ => ⟨he, n, hm.symm⟩
/-- The list's element, behind a name that the walk does not open. -/
def nth {α : Type} [Inhabited α] (xs : List α) (k : Nat) : α := xs.getD k default

theorem nth_eq {α : Type} [Inhabited α] {xs : List α} {k : Nat} (h : k < xs.length) : nth xs k = xs[k] := by
  unfold nth; rw [List.getD_eq_getElem?_getD, List.getElem?_eq_getElem h]; rfl


theorem below_drewN {B : Nat} {a w : World} (h : Below B a w) (n : Nat) : Below B a (w.drewN n) := ⟨h.os, h.tape, h.output, h.size, h.block⟩

/-- From block 'lo' up to 'hi' all is as it was. -/
structure Same (lo hi : Nat) (w w' : World) : Prop where
  block : ∀ i, lo ≤ i → i < hi → w'.heap[i]? = w.heap[i]?
theorem Same.of_below {lo B : Nat} {w w' : World} (hb : Below B w w') : Same lo B w w' := ⟨fun i _ hi => hb.block i hi⟩

/-- A cell that may be written. -/
def Cl (w : World) (b off : Nat) (v : Value) : Prop := w.cell? ⟨b, off, none⟩ = some v ∧ w.frozen? ⟨b, off, none⟩ = false
theorem Cl.same {w w' : World} {lo hi b off : Nat} {v : Value} (h : Cl w b off v) (hs : Same lo hi w w') (h1 : lo ≤ b) (h2 : b < hi) : Cl w' b off v :=
  ⟨(World.cell?_of_block (w := w) (a := ⟨b, off, none⟩) (hs.block b h1 h2)).trans h.1, (World.frozen?_of_block (w := w) (a := ⟨b, off, none⟩) (hs.block b h1 h2)).trans h.2⟩

/-- How one element of a list lies in memory: its cells from 'off' on in block 'b'; what it leads to lies in blocks from 'lo' on, below 'hi'. -/
structure Elem (α : Type) where
  size : Nat
  rep : World → Nat → Nat → Nat → Nat → α → Prop
  keep : ∀ {w w' : World} {lo hi b off : Nat} {x : α}, rep w lo hi b off x → Same lo hi w w' → lo ≤ b → b < hi → rep w' lo hi b off x
  wide : ∀ {w : World} {lo lo' hi hi' b off : Nat} {x : α}, rep w lo hi b off x → lo' ≤ lo → hi ≤ hi' → rep w lo' hi' b off x

/-- A slice's value reads as a list, in blocks from 'lo' on, below 'hi'. -/
def RH {α : Type} [Inhabited α] (E : Elem α) (w : World) (lo hi : Nat) (A : Option Addr) (n : Nat) (xs : List α) : Prop :=
  xs.length = n ∧ (0 < n → ∃ b off, A = some ⟨b, off, none⟩ ∧ lo ≤ b ∧ b < hi ∧ ∀ k, k < n → E.rep w lo hi b (off + k * E.size) (nth xs k))
/-- A slice's value reads as a list. -/
def RL {α : Type} [Inhabited α] (E : Elem α) (w : World) (lo : Nat) (A : Option Addr) (n : Nat) (xs : List α) : Prop := RH E w lo w.heap.size A n xs

section
variable {α : Type} [Inhabited α] {E : Elem α} {w w' : World} {lo lo' hi hi' n : Nat} {A : Option Addr} {xs : List α}
theorem RH.same (h : RH E w lo hi A n xs) (hs : Same lo hi w w') : RH E w' lo hi A n xs :=
  ⟨h.1, fun hn => by
    obtain ⟨b, off, e, h1, h2, hc⟩ := h.2 hn
    exact ⟨b, off, e, h1, h2, fun k hk => E.keep (hc k hk) hs h1 h2⟩⟩
theorem RH.wide (h : RH E w lo hi A n xs) (hl : lo' ≤ lo) (hh : hi ≤ hi') : RH E w lo' hi' A n xs :=
  ⟨h.1, fun hn => by
    obtain ⟨b, off, e, h1, h2, hc⟩ := h.2 hn
    exact ⟨b, off, e, by omega, by omega, fun k hk => E.wide (hc k hk) hl hh⟩⟩
theorem RH.nil : RH E w lo hi A 0 [] := ⟨rfl, fun h => absurd h (by omega)⟩
theorem RH.take (h : RH E w lo hi A n xs) {k : Nat} (hk : k ≤ n) : RH E w lo hi A k (xs.take k) :=
  ⟨by rw [List.length_take, h.1]; omega, fun hn => by
    obtain ⟨b, off, e, h1, h2, hc⟩ := h.2 (by omega)
    refine ⟨b, off, e, h1, h2, fun j hj => ?_⟩
    have hx : nth (xs.take k) j = nth xs j := by
      unfold nth
      rw [List.getD_eq_getElem?_getD, List.getD_eq_getElem?_getD, List.getElem?_take, if_pos hj]
    rw [hx]
    exact hc j (by omega)⟩
theorem RL.len (h : RL E w lo A n xs) : xs.length = n := h.1
theorem RL.low (h : RL E w lo A n xs) : RH E w lo w.heap.size A n xs := h
theorem RH.up (h : RH E w lo hi A n xs) (hh : hi ≤ w.heap.size) : RL E w lo A n xs := h.wide (Nat.le_refl _) hh
theorem RL.below (h : RL E w lo A n xs) (hb : Below w.heap.size w w') : RL E w' lo A n xs := (h.low.same (Same.of_below hb)).up hb.size
theorem RL.alloc (h : RL E w lo A n xs) (o : Obj) : RL E (w.alloc o) lo A n xs := h.below ((Below.refl _ _).alloc (Nat.le_refl _) o)
theorem RL.drewN (h : RL E w lo A n xs) (k : Nat) : RL E (w.drewN k) lo A n xs := h.below (below_drewN (Below.refl _ _) k)
theorem RL.drew (h : RL E w lo A n xs) : RL E w.drew lo A n xs := h.below (Below.refl _ _).drew
theorem RL.lower (h : RL E w lo A n xs) (hl : lo' ≤ lo) : RL E w lo' A n xs := h.low.wide hl (Nat.le_refl _)
theorem RL.nil : RL E w lo A 0 [] := RH.nil
theorem RL.take (h : RL E w lo A n xs) {k : Nat} (hk : k ≤ n) : RL E w lo A k (xs.take k) := RH.take h hk
end

/-- Outside the blocks from 'lo' up to 'hi' all that was there is as it was. -/
structure Out (lo hi : Nat) (w w' : World) : Prop where
  os : w'.os = w.os
  tape : w'.tape = w.tape
  output : w'.output = w.output
  size : w.heap.size ≤ w'.heap.size
  block : ∀ i, i < w.heap.size → i < lo ∨ hi ≤ i → w'.heap[i]? = w.heap[i]?
section
variable {lo hi : Nat} {w w1 w' : World}
theorem Out.refl : Out lo hi w w := ⟨rfl, rfl, rfl, Nat.le_refl _, fun _ _ _ => rfl⟩
theorem Out.trans (h : Out lo hi w w1) (k : Out lo hi w1 w') : Out lo hi w w' :=
  ⟨k.os.trans h.os, k.tape.trans h.tape, k.output.trans h.output, Nat.le_trans h.size k.size, fun i h1 h2 => (k.block i (Nat.lt_of_lt_of_le h1 h.size) h2).trans (h.block i h1 h2)⟩
theorem Out.of_below (h : Below w.heap.size w w') : Out lo hi w w' := ⟨h.os, h.tape, h.output, h.size, fun i h1 _ => h.block i h1⟩
theorem Out.wide {lo' hi' : Nat} (h : Out lo hi w w') (h1 : lo' ≤ lo) (h2 : hi ≤ hi') : Out lo' hi' w w' := ⟨h.os, h.tape, h.output, h.size, fun i h3 h4 => h.block i h3 (by omega)⟩
theorem Out.below (h : Out lo hi w w') (hl : lo ≤ w.heap.size) : Below lo w w' := ⟨h.os, h.tape, h.output, h.size, fun i hi => h.block i (by omega) (.inl hi)⟩
theorem Out.set_ (h : Out lo hi w w1) {b : Nat} (h1 : lo ≤ b) (h2 : b < hi) (o : Nat) (u : Value) : Out lo hi w (w1.setCell ⟨b, o, none⟩ u) :=
  ⟨h.os, h.tape, h.output, by simpa [World.setCell] using h.size, fun i h3 h4 => (Below.heap_setCell w1 ⟨b, o, none⟩ u i (by show i ≠ b; omega)).trans (h.block i h3 h4)⟩
theorem RH.out {α : Type} [Inhabited α] {E : Elem α} {lo1 hi1 n : Nat} {A : Option Addr} {xs : List α} (h : RH E w lo1 hi1 A n xs) (ho : Out lo hi w w') (hs : hi1 ≤ w.heap.size) (hd : hi1 ≤ lo ∨ hi ≤ lo1) : RH E w' lo1 hi1 A n xs :=
  h.same ⟨fun i h1 h2 => ho.block i (by omega) (by omega)⟩
theorem RH.below {α : Type} [Inhabited α] {E : Elem α} {lo1 hi1 n B : Nat} {A : Option Addr} {xs : List α} (h : RH E w lo1 hi1 A n xs) (hb : Below B w w') (hs : hi1 ≤ B) : RH E w' lo1 hi1 A n xs :=
  h.same ⟨fun i _ h2 => hb.block i (by omega)⟩
end

def strE : Elem Str := { size := 1, rep := fun w _ _ b off x => Cl w b off (.string x), keep := fun h hs h1 h2 => h.same hs h1 h2, wide := fun h _ _ => h }
def intE : Elem Int := { size := 1, rep := fun w _ _ b off x => Cl w b off (.int .i64 x), keep := fun h hs h1 h2 => h.same hs h1 h2, wide := fun h _ _ => h }

structure Guard where
  name : Str
  var : Int
  least : Int
  deriving Inhabited
def guardE : Elem Guard :=
  { size := 3, rep := fun w _ _ b off x => Cl w b off (.string x.name) ∧ Cl w b (off + 1) (.int .i64 x.var) ∧ Cl w b (off + 2) (.int .i64 x.least),
    keep := fun h hs h1 h2 => ⟨h.1.same hs h1 h2, h.2.1.same hs h1 h2, h.2.2.same hs h1 h2⟩, wide := fun h _ _ => h }

structure Step where
  name : Str
  after : List Str
  undo : Bool
  deriving Inhabited
def stepE : Elem Step :=
  { size := 3, rep := fun w lo hi b off x => Cl w b off (.string x.name) ∧ (∃ A n c, Cl w b (off + 1) (.slice A n c) ∧ RH strE w lo hi A n x.after) ∧ Cl w b (off + 2) (.bool x.undo),
    keep := fun h hs h1 h2 => ⟨h.1.same hs h1 h2, by
      obtain ⟨A, n, c, h3, h4⟩ := h.2.1
      exact ⟨A, n, c, h3.same hs h1 h2, h4.same hs⟩, h.2.2.same hs h1 h2⟩,
    wide := fun h hl hh => ⟨h.1, by
      obtain ⟨A, n, c, h1, h2⟩ := h.2.1
      exact ⟨A, n, c, h1, h2.wide hl hh⟩, h.2.2⟩ }

abbrev RStr := RL strE
abbrev RInt := RL intE
abbrev RGuard := RL guardE
abbrev RStep := RL stepE

section
variable {w : World} {lo n : Nat} {A : Option Addr}
theorem RStr.hat {hi : Nat} {xs : List Str} {k : Nat} (h : RH strE w lo hi A n xs) (hk : k < n) :
    ∃ b off, A = some ⟨b, off, none⟩ ∧ (lo ≤ b ∧ b < hi) ∧ ∀ j, j < n → w.cell? ⟨b, off + j, none⟩ = some (.string (nth xs j)) ∧ w.frozen? ⟨b, off + j, none⟩ = false := by
  obtain ⟨b, off, e, h1, h2, hc⟩ := h.2 (by omega)
  refine ⟨b, off, e, ⟨h1, h2⟩, fun j hj => ?_⟩
  have := hc j hj
  simpa [strE, Cl] using this
theorem RStr.at_ {xs : List Str} {k : Nat} (h : RStr w lo A n xs) (hk : k < n) :
    ∃ b off, A = some ⟨b, off, none⟩ ∧ (lo ≤ b ∧ b < w.heap.size) ∧ ∀ j, j < n → w.cell? ⟨b, off + j, none⟩ = some (.string (nth xs j)) ∧ w.frozen? ⟨b, off + j, none⟩ = false := RStr.hat h hk
theorem RInt.hat {hi : Nat} {xs : List Int} {k : Nat} (h : RH intE w lo hi A n xs) (hk : k < n) :
    ∃ b off, A = some ⟨b, off, none⟩ ∧ (lo ≤ b ∧ b < hi) ∧ ∀ j, j < n → w.cell? ⟨b, off + j, none⟩ = some (.int .i64 (nth xs j)) ∧ w.frozen? ⟨b, off + j, none⟩ = false := by
  obtain ⟨b, off, e, h1, h2, hc⟩ := h.2 (by omega)
  refine ⟨b, off, e, ⟨h1, h2⟩, fun j hj => ?_⟩
  have := hc j hj
  simpa [intE, Cl] using this
theorem RInt.at_ {xs : List Int} {k : Nat} (h : RInt w lo A n xs) (hk : k < n) :
    ∃ b off, A = some ⟨b, off, none⟩ ∧ (lo ≤ b ∧ b < w.heap.size) ∧ ∀ j, j < n → w.cell? ⟨b, off + j, none⟩ = some (.int .i64 (nth xs j)) ∧ w.frozen? ⟨b, off + j, none⟩ = false := RInt.hat h hk
theorem RGuard.hat {hi : Nat} {xs : List Guard} {k : Nat} (h : RH guardE w lo hi A n xs) (hk : k < n) :
    ∃ b off, A = some ⟨b, off, none⟩ ∧ (lo ≤ b ∧ b < hi) ∧ ∀ j, j < n →
      (w.cell? ⟨b, off + j * 3, none⟩ = some (.string (nth xs j).name) ∧ w.cell? ⟨b, off + j * 3 + 1, none⟩ = some (.int .i64 (nth xs j).var) ∧ w.cell? ⟨b, off + j * 3 + 2, none⟩ = some (.int .i64 (nth xs j).least)) ∧
      (w.frozen? ⟨b, off + j * 3, none⟩ = false ∧ w.frozen? ⟨b, off + j * 3 + 1, none⟩ = false ∧ w.frozen? ⟨b, off + j * 3 + 2, none⟩ = false) := by
  obtain ⟨b, off, e, h1, h2, hc⟩ := h.2 (by omega)
  refine ⟨b, off, e, ⟨h1, h2⟩, fun j hj => ?_⟩
  obtain ⟨⟨c1, f1⟩, ⟨c2, f2⟩, c3, f3⟩ := hc j hj
  exact ⟨⟨c1, c2, c3⟩, f1, f2, f3⟩
theorem RGuard.at_ {xs : List Guard} {k : Nat} (h : RGuard w lo A n xs) (hk : k < n) :
    ∃ b off, A = some ⟨b, off, none⟩ ∧ (lo ≤ b ∧ b < w.heap.size) ∧ ∀ j, j < n →
      (w.cell? ⟨b, off + j * 3, none⟩ = some (.string (nth xs j).name) ∧ w.cell? ⟨b, off + j * 3 + 1, none⟩ = some (.int .i64 (nth xs j).var) ∧ w.cell? ⟨b, off + j * 3 + 2, none⟩ = some (.int .i64 (nth xs j).least)) ∧
      (w.frozen? ⟨b, off + j * 3, none⟩ = false ∧ w.frozen? ⟨b, off + j * 3 + 1, none⟩ = false ∧ w.frozen? ⟨b, off + j * 3 + 2, none⟩ = false) := RGuard.hat h hk
theorem RStep.hat {hi : Nat} {xs : List Step} {k : Nat} (h : RH stepE w lo hi A n xs) (hk : k < n) :
    ∃ b off, A = some ⟨b, off, none⟩ ∧ (lo ≤ b ∧ b < hi) ∧ ∀ j, j < n → ∃ A' n' c',
      (w.cell? ⟨b, off + j * 3, none⟩ = some (.string (nth xs j).name) ∧ w.cell? ⟨b, off + j * 3 + 1, none⟩ = some (.slice A' n' c') ∧ w.cell? ⟨b, off + j * 3 + 2, none⟩ = some (.bool (nth xs j).undo)) ∧
      RH strE w lo hi A' n' (nth xs j).after ∧
      (w.frozen? ⟨b, off + j * 3, none⟩ = false ∧ w.frozen? ⟨b, off + j * 3 + 1, none⟩ = false ∧ w.frozen? ⟨b, off + j * 3 + 2, none⟩ = false) := by
  obtain ⟨b, off, e, h1, h2, hc⟩ := h.2 (by omega)
  refine ⟨b, off, e, ⟨h1, h2⟩, fun j hj => ?_⟩
  obtain ⟨⟨c1, f1⟩, ⟨A', n', c', ⟨c2, f2⟩, h5⟩, c3, f3⟩ := hc j hj
  exact ⟨A', n', c', ⟨c1, c2, c3⟩, h5, f1, f2, f3⟩
theorem RStep.at_ {xs : List Step} {k : Nat} (h : RStep w lo A n xs) (hk : k < n) :
    ∃ b off, A = some ⟨b, off, none⟩ ∧ (lo ≤ b ∧ b < w.heap.size) ∧ ∀ j, j < n → ∃ A' n' c',
      (w.cell? ⟨b, off + j * 3, none⟩ = some (.string (nth xs j).name) ∧ w.cell? ⟨b, off + j * 3 + 1, none⟩ = some (.slice A' n' c') ∧ w.cell? ⟨b, off + j * 3 + 2, none⟩ = some (.bool (nth xs j).undo)) ∧
      RStr w lo A' n' (nth xs j).after ∧
      (w.frozen? ⟨b, off + j * 3, none⟩ = false ∧ w.frozen? ⟨b, off + j * 3 + 1, none⟩ = false ∧ w.frozen? ⟨b, off + j * 3 + 2, none⟩ = false) := RStep.hat h hk
end

/-! ### A row of the call's own -/
theorem own_form {w : World} {base : Nat} {e : TypeId} {size : Nat} {v : Value} {n : Nat} {cs : List Value} (h : w.ownsRow base e size v n cs) :
    ∃ A c, v = .slice A n c ∧ (0 < n → ∃ b, A = some ⟨b, 0, none⟩ ∧ base ≤ b ∧ b < w.heap.size ∧ ∀ j u, cs[j]? = some u → Cl w b j u) := by
  rcases h.2 with ⟨rfl, rfl⟩ | ⟨g, cap, cur, rfl, hb, hg, hnc, hcm, hcs, ht⟩
  · exact ⟨none, 0, rfl, fun hn => absurd hn (by omega)⟩
  · refine ⟨_, _, rfl, fun _ => ⟨g, rfl, hb, ?_, fun j u hu => ?_⟩⟩
    · rcases Nat.lt_or_ge g w.heap.size with hlt | hge
      · exact hlt
      · rw [Array.getElem?_eq_none hge] at hg; cases hg
    · constructor
      · have := h.cells (g := g) rfl j u hu
        simpa [Addr.add] using (by by_cases hj : j = 0 <;> simp_all [Addr.add])
      · simp [World.frozen?, hg]

/-- The slice that a row of the call's own reads as. -/
theorem own_str {w : World} {base : Nat} {e : TypeId} {v : Value} {n : Nat} {ys : List Str} (h : w.ownsRow base e 1 v n (ys.map Value.string)) :
    ∃ A c, v = .slice A n c ∧ RStr w base A n ys := by
  obtain ⟨A, c, hv, hf⟩ := own_form h
  have hl : ys.length = n := by have := h.1; simpa using this
  refine ⟨A, c, hv, hl, fun hn => ?_⟩
  obtain ⟨b, e1, h1, h2, hc⟩ := hf hn
  refine ⟨b, 0, e1, h1, h2, fun k hk => ?_⟩
  have := hc k (.string (nth ys k)) (by rw [List.getElem?_map, List.getElem?_eq_getElem (by omega), nth_eq (by omega)]; rfl)
  simpa [strE] using this

theorem flat_at {α β : Type} [Inhabited α] {f : α → List β} {m : Nat} (hf : ∀ x, (f x).length = m) : ∀ (xs : List α) (k i : Nat), k < xs.length → i < m → (xs.flatMap f)[k * m + i]? = (f (nth xs k))[i]?
  | [], k, i, hk, _ => absurd hk (by simp)
  | x :: xs, 0, i, _, hi => by
    have h0 : nth (x :: xs) 0 = x := rfl
    rw [h0, List.flatMap_cons, Nat.zero_mul, Nat.zero_add, List.getElem?_append_left (by rw [hf]; exact hi)]
  | x :: xs, k + 1, i, hk, hi => by
    have h0 : nth (x :: xs) (k + 1) = nth xs k := rfl
    rw [h0, List.flatMap_cons, List.getElem?_append_right (by rw [hf, Nat.succ_mul]; omega), ← flat_at hf xs k i (by simpa using hk) hi]
    congr 1
    rw [hf, Nat.succ_mul]
    omega
theorem flat_len {α β : Type} {f : α → List β} {m : Nat} (hf : ∀ x, (f x).length = m) : ∀ xs : List α, (xs.flatMap f).length = xs.length * m
  | [] => by simp
  | x :: xs => by rw [List.flatMap_cons, List.length_append, hf, flat_len hf xs, List.length_cons, Nat.succ_mul]; omega

theorem blk_cl {w : World} {b k : Nat} {cs : Array Value} {e : TypeId} {v : Value} (h : w.heap[b]? = some (.cells cs e (0, 0))) (hv : cs[k]? = some v) : Cl w b k v := by
  constructor
  · have : w.cell? ⟨b, k, none⟩ = cs[k]? := by unfold World.cell?; rw [h]; rfl
    rw [this, hv]
  · unfold World.frozen?; rw [h]; simp
/-- A literal list in a block of its own. -/
theorem lit_str {w : World} {e : TypeId} {cs : Array Value} (xs : List Str) (n : Nat) (h : cs.toList = xs.map Value.string) (hn : xs.length = n) : RStr (w.alloc (.cells cs e)) w.heap.size (some ⟨w.heap.size, 0, none⟩) n xs := by
  refine ⟨hn, fun _ => ⟨w.heap.size, 0, rfl, Nat.le_refl _, by simp, fun k hk => ?_⟩⟩
  have hh := heap_alloc_new w (.cells cs e)
  have : cs[k]? = some (.string (nth xs k)) := by
    rw [← Array.getElem?_toList, h, List.getElem?_map, List.getElem?_eq_getElem (by omega), nth_eq (by omega)]; rfl
  have h2 := blk_cl hh this
  simpa [strE] using h2
structure Own (e : TypeId) (size : Nat) (w0 w : World) (v : Value) (n : Nat) (cs : List Value) : Prop where
  row : w.ownsRow w0.heap.size e size v n cs
  below : Below w0.heap.size w0 w
section
variable {e : TypeId} {size n : Nat} {w0 w w' : World} {v v' : Value} {cs cs' : List Value}
theorem Own.alloc (h : Own e size w0 w v n cs) (o : Obj) : Own e size w0 (w.alloc o) v n cs := ⟨h.row.alloc o, h.below.alloc h.below.size o⟩
theorem Own.drewN (h : Own e size w0 w v n cs) (k : Nat) : Own e size w0 (w.drewN k) v n cs := ⟨h.row, below_drewN h.below k⟩
theorem Own.next {n' : Nat} (h : Own e size w0 w v n cs) (hr : w'.ownsRow w0.heap.size e size v' n' cs') (hg : w.grownBy w' v.ownBlock) : Own e size w0 w' v' n' cs' :=
  ⟨hr, h.below.grown hg h.below.size fun k hk => (h.row.lt k hk).1⟩
theorem Own.below_ (h : Own e size w0 w v n cs) (hb : Below w.heap.size w w') : Own e size w0 w' v n cs :=
  ⟨h.row.kept (row := none) ⟨hb.os, hb.tape, hb.output, hb.size, fun k hk _ => hb.block k hk⟩ (by
    rcases h.row.2 with ⟨rfl, _⟩ | ⟨g, cap, cur, rfl, _⟩
    · left; rfl
    · right; simp [Value.ownBlock]), h.below.trans (hb.mono h.below.size)⟩
end

theorem Cl.set_same {w : World} {b o : Nat} {u v : Value} (h : Cl w b o u) : Cl (w.setCell ⟨b, o, none⟩ v) b o v := ⟨World.cell?_setCell_same w _ v h.1, by rw [World.frozen?_setCell]; exact h.2⟩
theorem Cl.set_other {w : World} {b o b' o' : Nat} {u v : Value} (h : Cl w b o u) (hne : b ≠ b' ∨ o ≠ o') : Cl (w.setCell ⟨b', o', none⟩ v) b o u :=
  ⟨(World.cell?_setCell_other w _ _ v (fun e => by injection e with e1 e2; rcases hne with h | h <;> omega)).trans h.1, by rw [World.frozen?_setCell]; exact h.2⟩
theorem nth_set {α : Type} [Inhabited α] {xs : List α} {j k : Nat} {y : α} (hj : j < xs.length) : nth (xs.set j y) k = if k = j then y else nth xs k := by
  unfold nth
  rw [List.getD_eq_getElem?_getD, List.getD_eq_getElem?_getD, List.getElem?_set]
  by_cases h : j = k
  · subst h; simp [hj]
  · rw [if_neg h, if_neg (fun e => h e.symm)]
theorem RInt.hset {w : World} {lo hi b off n j : Nat} {xs : List Int} (h : RH intE w lo hi (some ⟨b, off, none⟩) n xs) (hj : j < n) (x : Int) :
    RH intE (w.setCell ⟨b, off + j, none⟩ (.int .i64 x)) lo hi (some ⟨b, off, none⟩) n (xs.set j x) := by
  refine ⟨by rw [List.length_set]; exact h.1, fun hn => ?_⟩
  obtain ⟨b', off', e, h1, h2, hc⟩ := h.2 hn
  injection e with e; injection e with e1 e2
  subst e1; subst e2
  refine ⟨b, off, rfl, h1, h2, fun k hk => ?_⟩
  have c1 : Cl w b (off + k) (.int .i64 (nth xs k)) := by have := hc k hk; simpa [intE] using this
  have : Cl (w.setCell ⟨b, off + j, none⟩ (.int .i64 x)) b (off + k) (.int .i64 (nth (xs.set j x) k)) := by
    rw [nth_set (by rw [h.1]; exact hj)]
    by_cases hkj : k = j
    · subst hkj; rw [if_pos rfl]; exact c1.set_same
    · rw [if_neg hkj]; exact c1.set_other (.inr (by omega))
  simpa [intE] using this

theorem RInt.set_ {w : World} {lo b off n j : Nat} {xs : List Int} (h : RInt w lo (some ⟨b, off, none⟩) n xs) (hj : j < n) (x : Int) :
    RInt (w.setCell ⟨b, off + j, none⟩ (.int .i64 x)) lo (some ⟨b, off, none⟩) n (xs.set j x) := (RInt.hset h.low hj x).up (by simp)
theorem RStr.hset {w : World} {lo hi b off n j : Nat} {xs : List Str} (h : RH strE w lo hi (some ⟨b, off, none⟩) n xs) (hj : j < n) (x : Str) :
    RH strE (w.setCell ⟨b, off + j, none⟩ (.string x)) lo hi (some ⟨b, off, none⟩) n (xs.set j x) := by
  refine ⟨by rw [List.length_set]; exact h.1, fun hn => ?_⟩
  obtain ⟨b', off', e, h1, h2, hc⟩ := h.2 hn
  injection e with e; injection e with e1 e2
  subst e1; subst e2
  refine ⟨b, off, rfl, h1, h2, fun k hk => ?_⟩
  have c1 : Cl w b (off + k) (.string (nth xs k)) := by have := hc k hk; simpa [strE] using this
  have : Cl (w.setCell ⟨b, off + j, none⟩ (.string x)) b (off + k) (.string (nth (xs.set j x) k)) := by
    rw [nth_set (by rw [h.1]; exact hj)]
    by_cases hkj : k = j
    · subst hkj; rw [if_pos rfl]; exact c1.set_same
    · rw [if_neg hkj]; exact c1.set_other (.inr (by omega))
  simpa [strE] using this
theorem RStr.set_ {w : World} {lo b off n j : Nat} {xs : List Str} (h : RStr w lo (some ⟨b, off, none⟩) n xs) (hj : j < n) (x : Str) :
    RStr (w.setCell ⟨b, off + j, none⟩ (.string x)) lo (some ⟨b, off, none⟩) n (xs.set j x) := (RStr.hset h.low hj x).up (by simp)

/-! ### A reader of a code: a block that is written, all else stays -/
abbrev On (g : Nat) (w w' : World) : Prop := w.grownBy w' (some g)
section
variable {g : Nat} {w w1 w2 w' : World}
theorem On.refl (g : Nat) (w : World) : On g w w := World.grownBy.refl w _
theorem On.trans (h : On g w w1) (k : On g w1 w2) : On g w w2 :=
  ⟨k.os.trans h.os, k.tape.trans h.tape, k.output.trans h.output, Nat.le_trans h.size k.size, fun i hi hne => (k.block i (Nat.lt_of_lt_of_le hi h.size) hne).trans (h.block i hi hne)⟩
theorem On.alloc (h : On g w w1) (o : Obj) : On g w (w1.alloc o) := h.trans (World.grownBy_alloc w1 o _)
theorem On.drewN (h : On g w w1) (n : Nat) : On g w (w1.drewN n) := ⟨h.os, h.tape, h.output, h.size, h.block⟩
theorem On.set_ (h : On g w w1) (o : Nat) (u : Value) : On g w (w1.setCell ⟨g, o, none⟩ u) :=
  h.trans ⟨rfl, rfl, rfl, by simp [World.setCell], fun k _ hk => Below.heap_setCell _ _ _ _ (by intro e; exact hk (by rw [e]))⟩
theorem On.setNew (h : On g w w1) {b : Nat} (hb : w.heap.size ≤ b) (o : Nat) (u : Value) : On g w (w1.setCell ⟨b, o, none⟩ u) :=
  ⟨h.os, h.tape, h.output, by simpa [World.setCell] using h.size, fun i hi hne => (Below.heap_setCell w1 ⟨b, o, none⟩ u i (by intro e; simp at e; omega)).trans (h.block i hi hne)⟩
theorem On.grown {row : Option Nat} (h : On g w w1) (hg : w1.grownBy w2 row) (hr : ∀ k, row = some k → w.heap.size ≤ k) : On g w w2 :=
  ⟨hg.os.trans h.os, hg.tape.trans h.tape, hg.output.trans h.output, Nat.le_trans h.size hg.size, fun i hi hne => (hg.block i (Nat.lt_of_lt_of_le hi h.size) (by intro e; have := hr i e.symm; omega)).trans (h.block i hi hne)⟩
theorem On.of_below (h : Below w.heap.size w w1) : On g w w1 := ⟨h.os, h.tape, h.output, h.size, fun i hi _ => h.block i hi⟩
theorem On.below (h : On g w w1) : Below g w w1 ∨ w.heap.size ≤ g := by
  rcases Nat.lt_or_ge g w.heap.size with hl | hl
  · exact .inl ⟨h.os, h.tape, h.output, h.size, fun k hk => h.block k (by omega) (by intro e; injection e; omega)⟩
  · exact .inr hl
theorem On.low (h : On g w w1) (hl : g ≤ w.heap.size) : Below g w w1 := ⟨h.os, h.tape, h.output, h.size, fun k hk => h.block k (by omega) (by intro e; injection e; omega)⟩
theorem On.cell (h : On g w w1) {b o : Nat} (hb : b < w.heap.size) (hne : b ≠ g) : w1.cell? ⟨b, o, none⟩ = w.cell? ⟨b, o, none⟩ :=
  World.cell?_of_block (w := w) (h.block b hb (by intro e; injection e; omega))
theorem heap_lt {w : World} {b : Nat} {x : Obj} (h : w.heap[b]? = some x) : b < w.heap.size := by
  rcases Nat.lt_or_ge b w.heap.size with hlt | hge
  · exact hlt
  · rw [Array.getElem?_eq_none hge] at h; cases h
theorem grown_blk {row : Option Nat} (h : w.grownBy w1 row) {b : Nat} {x : Obj} (hb : w.heap[b]? = some x) (hne : row ≠ some b) : w1.heap[b]? = some x :=
  (h.block b (heap_lt hb) (Ne.symm hne)).trans hb
theorem On.frozen (h : On g w w1) {b o : Nat} (hb : b < w.heap.size) (hne : b ≠ g) : w1.frozen? ⟨b, o, none⟩ = w.frozen? ⟨b, o, none⟩ :=
  World.frozen?_of_block (w := w) (h.block b hb (by intro e; injection e; omega))
end

def Rd (T : TypeId) (w : World) (g p : Nat) : Prop :=
  ∃ A n c, n ≤ 2000 ∧ w.heap[g]? = some (.cells #[.slice A n c, .int .i64 (p : Int)] T (0, 0)) ∧
    (0 < n → ∃ b off, A = some ⟨b, off, none⟩ ∧ b < g ∧ ∀ k, k < n → ∃ u : Nat, u < 256 ∧ w.cell? ⟨b, off + k, none⟩ = some (.int .u8 (u : Int)))
theorem Rd.lt {T : TypeId} {w : World} {g p : Nat} (h : Rd T w g p) : g < w.heap.size := by
  obtain ⟨A, n, c, _, hg, _⟩ := h
  rcases Nat.lt_or_ge g w.heap.size with hlt | hge
  · exact hlt
  · rw [Array.getElem?_eq_none hge] at hg; cases hg
theorem Same.of_on {g lo : Nat} {w w' : World} (h : On g w w') (hg : g < lo) : Same lo w.heap.size w w' := ⟨fun i h1 h2 => h.block i h2 (by intro e; injection e; omega)⟩
theorem RL.on {α : Type} [Inhabited α] {E : Elem α} {w w' : World} {lo n g : Nat} {A : Option Addr} {xs : List α} (h : RL E w lo A n xs) (ho : On g w w') (hg : g < lo) : RL E w' lo A n xs := (h.low.same (Same.of_on ho hg)).up ho.size
theorem Rd.step {T : TypeId} {w : World} {g p : Nat} (h : Rd T w g p) : Rd T (w.setCell ⟨g, 1, none⟩ (.int .i64 ((p : Int) + 1))) g (p + 1) := by
  obtain ⟨A, len, c, hlen, hg, hr⟩ := h
  refine ⟨A, len, c, hlen, ?_, fun h0 => ?_⟩
  · simp only [World.setCell, Array.getElem?_modify, hg]; simp
  · obtain ⟨b, off, e, hb, hc⟩ := hr h0
    refine ⟨b, off, e, hb, fun k hk => ?_⟩
    obtain ⟨u, hu, hcu⟩ := hc k hk
    exact ⟨u, hu, (World.cell?_setCell_other w _ _ _ (fun e => by subst_vars; injection e; omega)).trans hcu⟩

/-- The reader in block g stands at q at most; but for its block all that was in w0 is as it was. -/
structure Dr (T : TypeId) (w0 : World) (g q : Nat) (w : World) : Prop where
  on : On g w0 w
  rd : ∃ p, p ≤ q ∧ Rd T w g p
theorem Dr.lt {T : TypeId} {w0 w : World} {g q : Nat} (h : Dr T w0 g q w) : g < w.heap.size := by
  obtain ⟨p, _, hr⟩ := h.rd; exact hr.lt
/-- Kept where its block and those below are kept. -/
theorem Rd.keep {T : TypeId} {w w' : World} {g p : Nat} (h : Rd T w g p) (hb : Below w.heap.size w w') : Rd T w' g p := by
  have hl := h.lt
  obtain ⟨A, n, c, hn, hg, hr⟩ := h
  refine ⟨A, n, c, hn, (hb.block g hl).trans hg, fun h0 => ?_⟩
  obtain ⟨b, off, e, hbg, hc⟩ := hr h0
  refine ⟨b, off, e, hbg, fun k hk => ?_⟩
  obtain ⟨u, hu, hcu⟩ := hc k hk
  exact ⟨u, hu, (hb.cell (p := ⟨b, off + k, none⟩) (by show b < _; omega)).trans hcu⟩

theorem Dr.below {T : TypeId} {w0 w w' : World} {g q : Nat} (h : Dr T w0 g q w) (hb : Below w.heap.size w w') : Dr T w0 g q w' := by
  obtain ⟨p, hp, hr⟩ := h.rd
  exact ⟨h.on.trans (On.of_below hb), p, hp, hr.keep hb⟩
theorem Dr.alloc {T : TypeId} {w0 w : World} {g q : Nat} (h : Dr T w0 g q w) (o : Obj) : Dr T w0 g q (w.alloc o) := h.below ((Below.refl _ _).alloc (Nat.le_refl _) o)
theorem Dr.drewN {T : TypeId} {w0 w : World} {g q : Nat} (h : Dr T w0 g q w) (k : Nat) : Dr T w0 g q (w.drewN k) := h.below (below_drewN (Below.refl _ _) k)
theorem Dr.more {T : TypeId} {w0 w : World} {g q q' : Nat} (h : Dr T w0 g q w) (hq : q ≤ q') : Dr T w0 g q' w := by
  obtain ⟨p, hp, hr⟩ := h.rd
  exact ⟨h.on, p, by omega, hr⟩
/-- A write into a block that is neither the reader's nor one below it. -/
theorem Dr.set_ {T : TypeId} {w0 w : World} {g q : Nat} (h : Dr T w0 g q w) {b : Nat} (hb : w0.heap.size ≤ b) (hg : g < b) (o : Nat) (u : Value) : Dr T w0 g q (w.setCell ⟨b, o, none⟩ u) := by
  obtain ⟨p, hp, hr⟩ := h.rd
  refine ⟨h.on.setNew hb o u, p, hp, ?_⟩
  obtain ⟨A, n, c, hn, hgg, hrr⟩ := hr
  refine ⟨A, n, c, hn, (Below.heap_setCell w ⟨b, o, none⟩ u g (by simp; omega)).trans hgg, fun h0 => ?_⟩
  obtain ⟨b', off, e, hbg, hc⟩ := hrr h0
  refine ⟨b', off, e, hbg, fun k hk => ?_⟩
  obtain ⟨u', hu, hcu⟩ := hc k hk
  exact ⟨u', hu, (World.cell?_setCell_other w _ _ _ (fun e => by injection e; omega)).trans hcu⟩
theorem Dr.grown {T : TypeId} {w0 w w' : World} {g q : Nat} {row : Option Nat} (h : Dr T w0 g q w) (hg : w.grownBy w' row) (hr : ∀ k, row = some k → w0.heap.size ≤ k ∧ g < k) : Dr T w0 g q w' := by
  obtain ⟨p, hp, hrd⟩ := h.rd
  refine ⟨h.on.grown hg (fun k hk => (hr k hk).1), p, hp, ?_⟩
  have hl := hrd.lt
  obtain ⟨A, n, c, hn, hgg, hrr⟩ := hrd
  refine ⟨A, n, c, hn, (hg.block g hl (by intro e; have := (hr g e.symm).2; omega)).trans hgg, fun h0 => ?_⟩
  obtain ⟨b', off, e, hbg, hc⟩ := hrr h0
  refine ⟨b', off, e, hbg, fun k hk => ?_⟩
  obtain ⟨u', hu, hcu⟩ := hc k hk
  exact ⟨u', hu, (World.cell?_of_block (w := w) (a := ⟨b', off + k, none⟩) (hg.block b' (by omega) (by intro e; have := (hr b' e.symm).2; omega))).trans hcu⟩

theorem row_below {w w' : World} {base : Nat} {e : TypeId} {size : Nat} {v : Value} {n : Nat} {cs : List Value} (h : w.ownsRow base e size v n cs) (hb : Below w.heap.size w w') : w'.ownsRow base e size v n cs :=
  h.kept (row := none) ⟨hb.os, hb.tape, hb.output, hb.size, fun k hk _ => hb.block k hk⟩ (by
    rcases Option.eq_none_or_eq_some v.ownBlock with hn | ⟨k, hk⟩
    · exact .inl hn
    · right; rw [hk]; intro e; cases e)

theorem Dr.drew {T : TypeId} {w0 w : World} {g q : Nat} (h : Dr T w0 g q w) : Dr T w0 g q w.drew := h.below (Below.refl _ _).drew
theorem Dr.trans {T : TypeId} {w0 w w' : World} {g q q' : Nat} (h : Dr T w0 g q w) (k : Dr T w g q' w') : Dr T w0 g q' w' := ⟨h.on.trans k.on, k.rd⟩
theorem row_ne {w : World} {base : Nat} {e t : TypeId} {size : Nat} {v : Value} {n : Nat} {cs : List Value} (h : w.ownsRow base e size v n cs) {b : Nat} {cs' : Array Value} {fr : Nat × Nat} (hb : w.heap[b]? = some (.cells cs' t fr)) (hne : e ≠ t) : v.ownBlock ≠ some b := by
  rcases h.2 with ⟨rfl, _⟩ | ⟨g, cap, cur, rfl, _, hg, _⟩
  · simp [Value.ownBlock]
  · intro he
    have e1 : g = b := by simpa [Value.ownBlock] using he
    subst e1
    rw [hg] at hb
    injection hb with hb
    injection hb with _ ht
    exact hne ht

theorem i64_xor_pos (a b : Nat) (ha : a < 9223372036854775808) (hb : b < 9223372036854775808) : 0 ≤ bits .xor .i64 (a : Int) (b : Int) ∧ bits .xor .i64 (a : Int) (b : Int) < 9223372036854775808 := by
  have ofInt : ∀ a : Nat, a < 9223372036854775808 → (BitVec.ofInt 64 (a : Int)).toNat = a := fun a ha => by
    rw [BitVec.ofInt_natCast, BitVec.toNat_ofNat]; exact Nat.mod_eq_of_lt (by omega)
  have hx : a ^^^ b < 2 ^ 63 := Nat.xor_lt_two_pow (by omega) (by omega)
  have : bits .xor .i64 (a : Int) (b : Int) = ((a ^^^ b : Nat) : Int) := by
    show IntKind.i64.wrap ((BitVec.ofInt 64 (a : Int) ^^^ BitVec.ofInt 64 (b : Int)).toNat : Int) = _
    rw [BitVec.toNat_xor, ofInt a ha, ofInt b hb, IntKind.wrap_i64]
    omega
  rw [this]
  omega

theorem heap_new {w : World} {o : Obj} {b : Nat} (h : b = w.heap.size) : (w.alloc o).heap[b]? = some o := by
  subst h; exact heap_alloc_new w o

theorem heap_old {w : World} {o x : Obj} {b : Nat} (h : w.heap[b]? = some x) : (w.alloc o).heap[b]? = some x := by
  have hb : b < w.heap.size := by
    rcases Nat.lt_or_ge b w.heap.size with hlt | hge
    · exact hlt
    · rw [Array.getElem?_eq_none hge] at h; cases h
  exact (Below.heap_alloc w o b hb).trans h
theorem take_nth {α : Type} [Inhabited α] {xs : List α} {k : Nat} (h : k < xs.length) : xs.take (k + 1) = xs.take k ++ [nth xs k] := by
  rw [List.take_succ_eq_append_getElem h, nth_eq h]

theorem fa_succ {P : Nat → Prop} {k : Nat} (h : ∀ j, j < k → P j) (hk : P k) : ∀ j, j < k + 1 → P j := fun j hj => by
  rcases Nat.lt_succ_iff_lt_or_eq.1 hj with h' | rfl
  · exact h j h'
  · exact hk
theorem fa_zero {P : Nat → Prop} : ∀ j, j < 0 → P j := fun j hj => absurd hj (by omega)

def allN (n : Nat) (p : Nat → Bool) : Bool := (List.range n).all p

theorem allN_true {n : Nat} {p : Nat → Bool} (h : ∀ j, j < n → p j = true) : allN n p = true := by
  unfold allN; rw [List.all_eq_true]; intro x hx; exact h x (List.mem_range.1 hx)
theorem allN_false {n : Nat} {p : Nat → Bool} {j : Nat} (hj : j < n) (h : p j = false) : allN n p = false := by
  cases hh : allN n p
  · rfl
  · unfold allN at hh; rw [List.all_eq_true] at hh
    have := hh j (List.mem_range.2 hj)
    rw [h] at this; cases this
theorem allN_iff {n : Nat} {p : Nat → Bool} : allN n p = true ↔ ∀ j, j < n → p j = true := by
  unfold allN; rw [List.all_eq_true]; simp [List.mem_range]


theorem ret_b {a b : Bool} (h : a = b) : Ending.returned (.bool a) = Ending.returned (.bool b) := by rw [h]
theorem ret_i {k : IntKind} {a b : Int} (h : a = b) : Ending.returned (.int k a) = Ending.returned (.int k b) := by rw [h]
theorem ret_s {a b : Str} (h : a = b) : Ending.returned (.string a) = Ending.returned (.string b) := by rw [h]
theorem seq_t {a b : Str} (h : a = b) : (a.toList == b.toList) = true := by rw [h]; simp
theorem seq_f {a b : Str} (h : a ≠ b) : (a.toList == b.toList) = false := by
  rw [beq_eq_false_iff_ne]; intro e; apply h
  have h1 : a.data.toList = b.data.toList := by simpa [ByteArray.toList_eq] using e
  cases a; cases b; simp at h1; simp [h1]
theorem bf {b : Bool} (h : ¬ b = true) : b = false := by cases b <;> simp_all

theorem str_ext {a b : Str} : a.toList = b.toList ↔ a = b := by
  constructor
  · intro h
    have h1 : a.data.toList = b.data.toList := by simpa [ByteArray.toList_eq] using h
    cases a; cases b; simp at h1; simp [h1]
  · rintro rfl; rfl

instance strLaw : LawfulBEq ByteArray where
  eq_of_beq {a b} h := by
    have h1 : (a.data == b.data) = true := h
    have h2 : a.data = b.data := by simpa using h1
    cases a; cases b; simp_all
  rfl {a} := by
    have : (a == a) = (a.data == a.data) := rfl
    rw [this]; simp

def lowB (c : UInt8) : Bool := decide (97 ≤ (c.toNat : Int)) && decide ((c.toNat : Int) ≤ 122)
/-- A valid name. -/
def nameB (s : Str) : Bool := decide (1 ≤ (s.size : Int)) && decide ((s.size : Int) ≤ 5) && s.data.toList.all lowB
def strLt (a b : Str) : Bool := Op.bytesLess a.toList b.toList
theorem bl_irr : ∀ x : List UInt8, Op.bytesLess x x = false
  | [] => rfl
  | a :: x => by simp [Op.bytesLess, bl_irr x]
theorem bl_tri : ∀ x y : List UInt8, Op.bytesLess x y = true ∨ x = y ∨ Op.bytesLess y x = true
  | [], [] => .inr (.inl rfl)
  | [], _ :: _ => .inl rfl
  | _ :: _, [] => .inr (.inr rfl)
  | a :: x, b :: y => by
    simp only [Op.bytesLess, Bool.or_eq_true, decide_eq_true_eq, Bool.and_eq_true, beq_iff_eq, UInt8.lt_iff_toNat_lt]
    rcases Nat.lt_trichotomy a.toNat b.toNat with h | h | h
    · exact .inl (.inl h)
    · have e := UInt8.toNat_inj.1 h
      subst e
      rcases bl_tri x y with h' | rfl | h'
      · exact .inl (.inr ⟨rfl, h'⟩)
      · exact .inr (.inl rfl)
      · exact .inr (.inr (.inr ⟨rfl, h'⟩))
    · exact .inr (.inr (.inl h))
theorem bl_trans : ∀ x y z : List UInt8, Op.bytesLess x y = true → Op.bytesLess y z = true → Op.bytesLess x z = true
  | _, [], _, h, _ => by cases ‹List UInt8› <;> simp [Op.bytesLess] at h
  | _, _ :: _, [], _, h => by simp [Op.bytesLess] at h
  | [], _ :: _, _ :: _, _, _ => rfl
  | a :: x, b :: y, c :: z, h1, h2 => by
    simp only [Op.bytesLess, Bool.or_eq_true, decide_eq_true_eq, Bool.and_eq_true, beq_iff_eq, UInt8.lt_iff_toNat_lt] at h1 h2 ⊢
    rcases h1 with h1 | ⟨rfl, h1⟩
    · rcases h2 with h2 | ⟨rfl, h2⟩
      · left; omega
      · left; exact h1
    · rcases h2 with h2 | ⟨rfl, h2⟩
      · left; exact h2
      · right; exact ⟨rfl, bl_trans x y z h1 h2⟩
theorem strLt_irr (a : Str) : strLt a a = false := bl_irr _
theorem strLt_trans {a b c : Str} (h1 : strLt a b = true) (h2 : strLt b c = true) : strLt a c = true := bl_trans _ _ _ h1 h2
theorem strLt_tri (a b : Str) : strLt a b = true ∨ a = b ∨ strLt b a = true := by
  rcases bl_tri a.toList b.toList with h | h | h
  · exact .inl h
  · exact .inr (.inl (str_ext.1 h))
  · exact .inr (.inr h)
theorem strLt_asymm {a b : Str} (h : strLt a b = true) : strLt b a = false := by
  cases h' : strLt b a
  · rfl
  · have := strLt_trans h h'; rw [strLt_irr] at this; cases this
theorem strLt_ne {a b : Str} (h : strLt a b = true) : a ≠ b := by rintro rfl; rw [strLt_irr] at h; cases h
/-- '<=' the other way round. -/
theorem str_le (a b : Str) : (Op.bytesLess b.toList a.toList || b.toList == a.toList) = !(strLt a b) := by
  rcases strLt_tri a b with h | h | h
  · have h1 := strLt_asymm h
    have h2 : (b.toList == a.toList) = false := seq_f (Ne.symm (strLt_ne h))
    rw [h, h2]; unfold strLt at h1; rw [h1]; rfl
  · subst h; rw [strLt_irr]; simp
  · have h1 := strLt_asymm h
    rw [h1]; unfold strLt at h; rw [h]; rfl
def inB (n lo hi : Int) : Bool := decide (lo ≤ n) && decide (n ≤ hi)

/-- The place of a name, or -1. -/
def idxI (xs : List Str) (s : Str) : Int := if s ∈ xs then (xs.findIdx (· = s) : Nat) else -1
def hasB (xs : List Str) (s : Str) : Bool := decide (s ∈ xs)

theorem mem_nth {α : Type} [Inhabited α] {xs : List α} {k : Nat} (h : k < xs.length) : nth xs k ∈ xs := by rw [nth_eq h]; exact List.getElem_mem h
theorem nth_of_mem {α : Type} [Inhabited α] {xs : List α} {x : α} (h : x ∈ xs) : ∃ k, k < xs.length ∧ nth xs k = x := by
  obtain ⟨k, hk, he⟩ := List.getElem_of_mem h
  exact ⟨k, hk, by rw [nth_eq hk]; exact he⟩

theorem idxI_at {xs : List Str} {s : Str} {k : Nat} (hp : ∀ j, j < k → nth xs j ≠ s) (hk : k < xs.length) (he : nth xs k = s) : idxI xs s = k := by
  have hm : s ∈ xs := he ▸ mem_nth hk
  unfold idxI; rw [if_pos hm]
  have : xs.findIdx (· = s) = k := by
    rw [List.findIdx_eq hk]
    refine ⟨by rw [nth_eq hk] at he; simpa using he, fun j hj => ?_⟩
    have := hp j hj
    rw [nth_eq (by omega)] at this
    simpa using this
  rw [this]
theorem idxI_none {xs : List Str} {s : Str} (hp : ∀ j, j < xs.length → nth xs j ≠ s) : idxI xs s = -1 := by
  unfold idxI; rw [if_neg]
  intro hm
  obtain ⟨k, hk, he⟩ := nth_of_mem hm
  exact hp k hk he
theorem idxI_nonneg {xs : List Str} {s : Str} : 0 ≤ idxI xs s ↔ s ∈ xs := by
  unfold idxI; split <;> simp_all
theorem hasB_true {xs : List Str} {s : Str} : hasB xs s = true ↔ s ∈ xs := by simp [hasB]
theorem hasB_false {xs : List Str} {s : Str} : hasB xs s = false ↔ s ∉ xs := by simp [hasB]
theorem hasB_idx (xs : List Str) (s : Str) : decide (0 ≤ idxI xs s) = hasB xs s := by
  unfold hasB; rw [decide_eq_decide]; exact idxI_nonneg
theorem idx_neg {xs : List Str} {s : Str} (h : hasB xs s = false) : idxI xs s < 0 := by
  rw [← hasB_idx] at h; simp at h; omega
theorem idx_pos {xs : List Str} {s : Str} (h : hasB xs s = true) : 0 ≤ idxI xs s := by
  rw [← hasB_idx] at h; simpa using h

/-- All names of a list are in another one. -/
def haveB (xs ys : List Str) : Bool := allN ys.length fun j => hasB xs (nth ys j)
/-- Names are valid and ascend. -/
def ascAt (xs : List Str) (j : Nat) : Bool := nameB (nth xs j) && (decide (j = 0) || strLt (nth xs (j - 1)) (nth xs j))
def ascB (xs : List Str) : Bool := allN xs.length (ascAt xs)
theorem haveB_iff {xs ys : List Str} : haveB xs ys = true ↔ ∀ y ∈ ys, y ∈ xs := by
  unfold haveB; rw [allN_iff]
  constructor
  · intro h y hy
    obtain ⟨k, hk, rfl⟩ := nth_of_mem hy
    exact hasB_true.1 (h k hk)
  · intro h j hj
    exact hasB_true.2 (h _ (mem_nth hj))

theorem list_ext {α : Type} [Inhabited α] {xs ys : List α} (hl : xs.length = ys.length) (h : ∀ j, j < xs.length → nth xs j = nth ys j) : xs = ys := by
  refine List.ext_getElem hl fun j h1 h2 => ?_
  have := h j h1
  rwa [nth_eq h1, nth_eq h2] at this
end Go.Proofs.YthdfefgianokgaaGreatDoor

/- append onto a row of the call's own, at the types of the translation. -/
namespace Go.Proofs.YthdfefgianokgaaGreatDoor
open Go.RowKit

theorem info_str : (Tryz.prog.info? 9).map (fun i => (i.zero, i.size, i.bytes)) = some (some (.string ⟨#[]⟩), 1, 16) := by kernel_rfl

/-- 'out = append(out, s)'. -/
theorem app_str {w : World} {ops : Array Oper} {rest : List Oper} {o : Oper} {a : Act} {Q : Exit → Act → World → Prop} (w0 : World) (v : Value) (n : Nat) (ys : List Str) (b : Nat) (s : Str) (hown : Own 9 1 w0 w v n (ys.map Value.string))
    (hgd : o.guard = none) (l x : Operand) (ho : o.op = .call { callee := .builtin .append, args := #[l, x], argTypes := #[33, 33] })
    (hs : a.eval l = v) (hx : a.eval x = .slice (some ⟨b, 0, none⟩) 1 1) (hb : w.heap[b]? = some (.cells #[.string s] 9 (0, 0))) (hn : n ≤ 1048576)
    (h : ∀ v' w', Own 9 1 w0 w' v' (n + 1) ((ys ++ [s]).map Value.string) → w.grownBy w' v.ownBlock → wpList Tryz.prog ops Q rest (a.put o.dst v') w') : wpList Tryz.prog ops Q (o :: rest) a w := by
  obtain ⟨i0, hi0, hz0, hz1, hz2⟩ := info_parts info_str
  refine wpList_append_own w hgd l x 33 ho w0.heap.size 9 i0 _ 1 16 Tryz.underlying33 hi0 hz0 hz1 hz2 rfl (by omega) v n _ hs hown.row ⟨b, 0, none⟩ 1 1 [.string s] hx rfl ?_ ?_ (by unfold maxLen; omega) (by omega) hown.below.size ?_
  · intro j u hu
    match j, hu with
    | 0, hu =>
      have : u = .string s := by simpa using hu.symm
      subst this
      simp [World.cell?, hb, Addr.add]
  · simp [Value.oneCell']
  · intro v' w' h1 h2 _
    have h1' : w'.ownsRow w0.heap.size 9 1 v' (n + 1) ((ys ++ [s]).map Value.string) := by simpa using h1
    exact h v' w' (hown.next h1' h2) h2

/-- append of one element, cells 'news' in a block just made: at a single operation. -/
theorem wapp {w : World} {o : Oper} {a : Act} {K : Act → World → Prop} {Q : Exit → Act → World → Prop} (T e size bytes : Nat) (z : Value)
    (hT : Tryz.prog.underlying T = some (.slice e)) (hi : (Tryz.prog.info? e).map (fun i => (i.zero, i.size, i.bytes)) = some (some z, size, bytes)) (hzs : z.cells.size = size) (hsz : 0 < size) (hbs : bytes ≤ 64)
    (base : Nat) (v : Value) (n : Nat) (cs news : List Value) (b : Nat) (hown : w.ownsRow base e size v n cs)
    (l x : Operand) (ho : o.op = .call { callee := .builtin .append, args := #[l, x], argTypes := #[T, T] })
    (hs : a.eval l = v) (hx : a.eval x = .slice (some ⟨b, 0, none⟩) 1 1) (hb : w.heap[b]? = some (.cells news.toArray e (0, 0))) (hnl : news.length = size) (h1 : ∀ u ∈ news, u.oneCell' = true) (hn : n ≤ 1048576) (hbase : base ≤ w.heap.size)
    (h : ∀ v' w', w'.ownsRow base e size v' (n + 1) (cs ++ news) → w.grownBy w' v.ownBlock → (v'.ownBlock = v.ownBlock ∨ v'.ownBlock = some w.heap.size) → K (a.put o.dst v') w') : o.wp Tryz.prog a w K Q := by
  obtain ⟨i0, hi0, hz0, hz1, hz2⟩ := info_parts hi
  have hbytes : (n + 1) * bytes ≤ 140737488355328 := by
    have : (n + 1) * bytes ≤ 1048577 * 64 := Nat.mul_le_mul (by omega) hbs
    omega
  obtain ⟨v', w', hr, h2, h3, _, h5⟩ := run_append_own_at (P := Tryz.prog) w base T o.type e i0 z size bytes hT hi0 hz0 hz1 hz2 hzs hsz v n cs hown ⟨b, 0, none⟩ 1 1 news (by omega) (by
    intro j u hu
    have : (⟨b, 0, none⟩ : Addr).add j = ⟨b, j, none⟩ := by unfold Addr.add; split <;> simp_all
    rw [this]
    exact (blk_cl hb (by simpa using hu)).1) h1 (by unfold maxLen; omega) hbytes hbase
  unfold Oper.wp execOp
  simp only [ho, resolve, invoke, builtin, Sem.run_bind, Sem.run_pure, Result.andThen_ok, List.map_toArray, List.map_cons, List.map_nil, hs, hx, hr]
  exact h v' w' h2 h3 h5

/-! ### append of a whole list -/
theorem run_append_of_nil {P : Program} (w : World) (base : Nat) (t ty e : TypeId) (i : TypeInfo) (size : Nat) (ht : P.underlying t = some (.slice e)) (hi : P.info? e = some i)
    (v : Value) (n : Nat) (xs : List Value) (hown : w.ownsRow base e size v n xs) (c : Nat) : (Builtin.append_ #[t, t] ty #[v, .slice none 0 c]).run P w = .ok v w := by
  rcases hown.2 with ⟨rfl, rfl⟩ | ⟨g, cap, cur, rfl, _, _, hnc, _⟩
  · simp [Builtin.append_, run_underlying ht, sizeOf, typeInfo, hi, Builtin.lenOf, Builtin.firstCells]
  · simp [Builtin.append_, run_underlying ht, sizeOf, typeInfo, hi, Builtin.lenOf, Builtin.firstCells, hnc, storeCells]

theorem wappl {w : World} {o : Oper} {a : Act} {K : Act → World → Prop} {Q : Exit → Act → World → Prop} (T e size bytes : Nat) (z : Value)
    (hT : Tryz.prog.underlying T = some (.slice e)) (hi : (Tryz.prog.info? e).map (fun i => (i.zero, i.size, i.bytes)) = some (some z, size, bytes)) (hzs : z.cells.size = size) (hsz : 0 < size) (hbs : bytes ≤ 64)
    (base : Nat) (v : Value) (n : Nat) (cs news : List Value) (A : Option Addr) (m c : Nat) (hown : w.ownsRow base e size v n cs)
    (l x : Operand) (ho : o.op = .call { callee := .builtin .append, args := #[l, x], argTypes := #[T, T] })
    (hs : a.eval l = v) (hx : a.eval x = .slice A m c) (hnl : news.length = m * size) (hnews : 0 < m → ∃ ad, A = some ad ∧ ∀ j u, news[j]? = some u → w.cell? (ad.add j) = some u) (h1 : ∀ u ∈ news, u.oneCell' = true) (hn : n + m ≤ 4194304) (hbase : base ≤ w.heap.size)
    (h : ∀ v' w', w'.ownsRow base e size v' (n + m) (cs ++ news) → w.grownBy w' v.ownBlock → (v'.ownBlock = v.ownBlock ∨ v'.ownBlock = some w.heap.size) → K (a.put o.dst v') w') : o.wp Tryz.prog a w K Q := by
  obtain ⟨i0, hi0, hz0, hz1, hz2⟩ := info_parts hi
  have hbytes : (n + m) * bytes ≤ 140737488355328 := by
    have h2 : (n + m) * bytes ≤ 4194304 * bytes := Nat.mul_le_mul_right _ hn
    omega
  have key : ∃ v' w', (Builtin.append_ #[T, T] o.type #[v, .slice A m c]).run Tryz.prog w = .ok v' w' ∧ w'.ownsRow base e size v' (n + m) (cs ++ news) ∧ w.grownBy w' v.ownBlock ∧
      (v'.ownBlock = v.ownBlock ∨ v'.ownBlock = some w.heap.size) := by
    rcases A with _ | ad
    · have hm : m = 0 := by
        rcases Nat.eq_zero_or_pos m with h0 | h0
        · exact h0
        · obtain ⟨ad, h, _⟩ := hnews h0
          cases h
      subst hm
      have hn0 : news = [] := List.eq_nil_of_length_eq_zero (by simpa using hnl)
      subst hn0
      exact ⟨v, w, run_append_of_nil w base T o.type e i0 size hT hi0 v n cs hown c, by simpa using hown, World.grownBy.refl w _, .inl rfl⟩
    · have hcells : ∀ j u, news[j]? = some u → w.cell? (ad.add j) = some u := by
        intro j u hu
        rcases Nat.eq_zero_or_pos m with h0 | h0
        · subst h0
          have hn0 : news = [] := List.eq_nil_of_length_eq_zero (by simpa using hnl)
          subst hn0
          simp at hu
        · obtain ⟨ad', h, hc⟩ := hnews h0
          have h := Option.some.inj h
          subst h
          exact hc j u hu
      obtain ⟨v', w', hrun, h2, h3, _, h5⟩ := run_append_own_at (P := Tryz.prog) w base T o.type e i0 z size bytes hT hi0 hz0 hz1 hz2 hzs hsz v n cs hown ad m c news hnl hcells h1 (by unfold maxLen; omega) hbytes hbase
      exact ⟨v', w', hrun, h2, h3, h5⟩
  obtain ⟨v', w', hr, h2, h3, h5⟩ := key
  unfold Oper.wp execOp
  simp only [ho, resolve, invoke, builtin, Sem.run_bind, Sem.run_pure, Result.andThen_ok, List.map_toArray, List.map_cons, List.map_nil, hs, hx, hr]
  exact h v' w' h2 h3 h5

theorem news_str {w : World} {lo m : Nat} {A : Option Addr} {ys : List Str} (hr : RStr w lo A m ys) : 0 < m → ∃ ad, A = some ad ∧ ∀ j u, (ys.map Value.string)[j]? = some u → w.cell? (ad.add j) = some u := by
  intro hm
  obtain ⟨b, off, rfl, _, hc⟩ := RStr.at_ hr hm
  refine ⟨_, rfl, fun j u hu => ?_⟩
  have hj : j < ys.length := by
    rcases Nat.lt_or_ge j ys.length with h | h
    · exact h
    · rw [List.getElem?_eq_none (by simpa using h)] at hu; cases hu
  rw [List.getElem?_map, List.getElem?_eq_getElem hj] at hu
  have e : (⟨b, off, none⟩ : Addr).add j = ⟨b, off + j, none⟩ := by unfold Addr.add; split <;> simp_all
  rw [e, (hc j (by rw [← hr.1]; exact hj)).1, nth_eq hj]
  exact hu
/-- 'out = append(out, names...)'. -/
theorem apps_str {w : World} {ops : Array Oper} {rest : List Oper} {o : Oper} {a : Act} {Q : Exit → Act → World → Prop} (w0 : World) (v : Value) (n : Nat) (cs : List Str) (lo : Nat) (A : Option Addr) (m c : Nat) (ys : List Str) (hown : Own 9 1 w0 w v n (cs.map Value.string))
    (hr : RStr w lo A m ys) (hgd : o.guard = none) (l x : Operand) (ho : o.op = .call { callee := .builtin .append, args := #[l, x], argTypes := #[33, 33] })
    (hs : a.eval l = v) (hx : a.eval x = .slice A m c) (hn : n + m ≤ 4194304)
    (h : ∀ v' w', Own 9 1 w0 w' v' (n + m) ((cs ++ ys).map Value.string) → w.grownBy w' v.ownBlock → wpList Tryz.prog ops Q rest (a.put o.dst v') w') : wpList Tryz.prog ops Q (o :: rest) a w :=
  wpList_plain hgd fun _ hK => wappl 33 9 1 16 _ Tryz.underlying33 info_str rfl (by omega) (by omega) w0.heap.size v n _ (ys.map Value.string) A m c hown.row l x ho hs hx (by rw [List.length_map, hr.1]; omega) (news_str hr) (by simp [Value.oneCell']) hn hown.below.size
    fun v' w' h2 h3 _ => hK _ _ (h v' w' (hown.next (by rw [List.map_append]; exact h2) h3) h3)
end Go.Proofs.YthdfefgianokgaaGreatDoor

/- Names and lists of names: the leaves. -/
namespace Go.Proofs.YthdfefgianokgaaGreatDoor
open Go.RowKit

theorem l6In_any (n lo hi : Int) (w : World) :
    Calls Tryz.prog 72 #[.int .i64 n, .int .i64 lo, .int .i64 hi] w fun e w' => e = .returned (.bool (inB n lo hi)) ∧ w = w' := by
  by_cases h : lo ≤ n
  all_goals
    go_enter Tryz.func72, Tryz.ntmps72
    go_wp2
    go_ret
    exact ⟨by simp [inB, *] <;> omega, rfl⟩

theorem name_tail (s : Str) (k : Nat) (h : k < s.size) : s.data.toList.take (k + 1) = s.data.toList.take k ++ [s[k]] := by
  rw [List.take_succ_eq_append_getElem (by simpa using h)]; rfl
theorem name_bad (s : Str) (k : Nat) (h : k < s.size) (hb : lowB s[k] = false) : nameB s = false := by
  unfold nameB
  have : s.data.toList.all lowB = false := by
    rw [List.all_eq_false]
    exact ⟨s[k], by exact Array.mem_toList_iff.2 (Array.getElem_mem h), by simp [hb]⟩
  rw [this, Bool.and_false]
theorem name_good (s : Str) (k : Nat) (h : s.size ≤ k) (hb : (s.data.toList.take k).all lowB = true) : nameB s = inB s.size 1 5 := by
  unfold nameB inB
  rw [List.take_of_length_le (by simpa using h)] at hb
  rw [hb, Bool.and_true]

theorem nameS_any (s : Str) (w : World) (hs : s.size ≤ maxLen) : Calls Tryz.prog 109 #[.string s] w fun e w' => e = .returned (.bool (nameB s)) ∧ w = w' := by
  unfold maxLen at hs
  go_enter Tryz.func109, Tryz.ntmps109
  go_wp2
  go_loop [3] (fun i => ∃ k : Nat, k ≤ s.size ∧ i = .int .i64 k ∧ (s.data.toList.take k).all lowB = true) (fun i => s.size - (intOf i).toNat)
  case atStart => exact ⟨0, Nat.zero_le _, rfl, by simp⟩
  case round =>
    obtain ⟨k, hk, rfl, hp⟩ := hrel
    have HP := Lib.hid hp; clear hp
    by_cases hlt : k < s.size
    · have HT := Lib.hid (name_tail s k hlt)
      by_cases h1 : 97 ≤ (s[k].toNat : Int)
      · by_cases h2 : (s[k].toNat : Int) ≤ 122
        · go_wp2
          go_round
          case rel => exact ⟨k + 1, by omega, by go_num, by rw [HT.out, List.all_append, HP.out]; simp [lowB]; omega⟩
          case measure => simp [intOf]; omega
        · go_wp2
          go_ret
          exact ⟨ret_b (name_bad s k hlt (by simp [lowB]; omega)).symm, rfl⟩
      · go_wp2
        go_ret
        exact ⟨ret_b (name_bad s k hlt (by simp [lowB]; omega)).symm, rfl⟩
    · go_wp2_with (go_at_call 72; refine (l6In_any _ _ _ _).mono ?_; rintro e w' ⟨rfl, rfl⟩)
      go_ret
      exact ⟨ret_b (name_good s k (by omega) HP.out).symm, rfl⟩

theorem nameI_any (s : Str) (w : World) (hs : s.size ≤ maxLen) : Calls Tryz.prog 123 #[.string s] w fun e w' => e = .returned (.bool (nameB s)) ∧ w = w' := by
  unfold maxLen at hs
  by_cases hz : 1 ≤ (s.size : Int)
  · by_cases hz2 : (s.size : Int) ≤ 5
    · go_enter Tryz.func123, Tryz.ntmps123
      go_wp2
      go_loop [14] (fun i => ∃ k : Nat, k ≤ s.size ∧ i = .int .i64 k ∧ (s.data.toList.take k).all lowB = true) (fun i => s.size - (intOf i).toNat)
      case atStart => exact ⟨0, Nat.zero_le _, rfl, by simp⟩
      case round =>
        obtain ⟨k, hk, rfl, hp⟩ := hrel
        have HP := Lib.hid hp; clear hp
        by_cases hlt : k < s.size
        · have HT := Lib.hid (name_tail s k hlt)
          by_cases h1 : 97 ≤ (s[k].toNat : Int)
          · by_cases h2 : (s[k].toNat : Int) ≤ 122
            · go_wp2
              go_round
              case rel => exact ⟨k + 1, by omega, by go_num, by rw [HT.out, List.all_append, HP.out]; simp [lowB]; omega⟩
              case measure => simp [intOf]; omega
            · go_wp2
              go_ret
              exact ⟨ret_b (name_bad s k hlt (by simp [lowB]; omega)).symm, rfl⟩
          · go_wp2
            go_ret
            exact ⟨ret_b (name_bad s k hlt (by simp [lowB]; omega)).symm, rfl⟩
        · go_wp2
          go_ret
          exact ⟨ret_b (by rw [name_good s k (by omega) HP.out]; simp [inB]; omega), rfl⟩
    · go_enter Tryz.func123, Tryz.ntmps123
      go_wp2
      go_ret
      exact ⟨by simp [nameB]; omega, rfl⟩
  · go_enter Tryz.func123, Tryz.ntmps123
    go_wp2
    go_ret
    exact ⟨by simp [nameB]; omega, rfl⟩

/-! ### Index, Contains, l1At, l1Have, NamesHave -/
theorem index_any (A : Option Addr) (n c : Nat) (xs : List Str) (s : Str) (lo : Nat) (w : World) (hr : RStr w lo A n xs) (hn : n ≤ 1048576) :
    Calls Tryz.prog 108 #[.slice A n c, .string s] w fun e w' => e = .returned (.int .i64 (idxI xs s)) ∧ w = w' := by
  have HR := Lib.hid hr; clear hr
  go_enter Tryz.func108, Tryz.ntmps108
  go_wp2
  go_loop [8] (fun i => ∃ k : Nat, k ≤ n ∧ i = .int .i64 k ∧ ∀ j, j < k → nth xs j ≠ s) (fun i => n - (intOf i).toNat)
  case atStart => exact ⟨0, Nat.zero_le _, rfl, fa_zero⟩
  case round =>
    obtain ⟨k, hk, rfl, hp⟩ := hrel
    have HP := Lib.hid hp; clear hp
    by_cases hlt : k < n
    · obtain ⟨b, off, rfl, _, hc⟩ := HR.out.at_ hlt
      obtain ⟨c1, _⟩ := hc k hlt
      clear hc
      by_cases he : s = nth xs k
      · have HE := Lib.hid he; clear he
        have hq := seq_t HE.out
        go_wp2
        go_ret
        exact ⟨ret_i (idxI_at HP.out (HR.out.1 ▸ hlt) HE.out.symm).symm, rfl⟩
      · have HE := Lib.hid he; clear he
        have hq := seq_f HE.out
        go_wp2
        go_round
        case rel => exact ⟨k + 1, by omega, by go_num, fa_succ HP.out (Ne.symm HE.out)⟩
        case measure => simp [intOf]; omega
    · go_wp2
      go_ret
      exact ⟨ret_i (idxI_none (fun j hj => HP.out j (by have := HR.out.1; omega))).symm, rfl⟩

theorem l1At_any (A : Option Addr) (n c : Nat) (xs : List Str) (s : Str) (lo : Nat) (w : World) (hr : RStr w lo A n xs) (hn : n ≤ 1048576) :
    Calls Tryz.prog 110 #[.slice A n c, .string s] w fun e w' => e = .returned (.int .i64 (idxI xs s)) ∧ w = w' := by
  have HR := Lib.hid hr; clear hr
  go_enter Tryz.func110, Tryz.ntmps110
  go_wp2
  go_loop [5] (fun i => ∃ k : Nat, k ≤ n ∧ i = .int .i64 k ∧ ∀ j, j < k → nth xs j ≠ s) (fun i => n - (intOf i).toNat)
  case atStart => exact ⟨0, Nat.zero_le _, rfl, fa_zero⟩
  case round =>
    obtain ⟨k, hk, rfl, hp⟩ := hrel
    have HP := Lib.hid hp; clear hp
    by_cases hlt : k < n
    · obtain ⟨b, off, rfl, _, hc⟩ := HR.out.at_ hlt
      obtain ⟨c1, _⟩ := hc k hlt
      clear hc
      by_cases he : nth xs k = s
      · have HE := Lib.hid he; clear he
        have hq := seq_t HE.out
        go_wp2
        go_ret
        exact ⟨ret_i (idxI_at HP.out (HR.out.1 ▸ hlt) HE.out).symm, rfl⟩
      · have HE := Lib.hid he; clear he
        have hq := seq_f HE.out
        go_wp2
        go_round
        case rel => exact ⟨k + 1, by omega, by go_num, fa_succ HP.out HE.out⟩
        case measure => simp [intOf]; omega
    · go_wp2
      go_ret
      exact ⟨ret_i (idxI_none (fun j hj => HP.out j (by have := HR.out.1; omega))).symm, rfl⟩

theorem contains_any (A : Option Addr) (n c : Nat) (xs : List Str) (s : Str) (lo : Nat) (w : World) (hr : RStr w lo A n xs) (hn : n ≤ 1048576) :
    Calls Tryz.prog 67 #[.slice A n c, .string s] w fun e w' => e = .returned (.bool (hasB xs s)) ∧ w = w' := by
  have HR := Lib.hid hr; clear hr
  go_enter Tryz.func67, Tryz.ntmps67
  go_wp2_with (go_at_call 108; refine (index_any _ _ _ xs s lo _ HR.out hn).mono ?_; rintro e w' ⟨rfl, rfl⟩)
  go_ret
  exact ⟨ret_b (hasB_idx xs s), rfl⟩

theorem l1Have_any (A B : Option Addr) (n c m d : Nat) (xs ys : List Str) (lo lo' : Nat) (w : World) (hr : RStr w lo A n xs) (hn : n ≤ 1048576) (hr' : RStr w lo' B m ys) (hm : m ≤ 1048576) :
    Calls Tryz.prog 112 #[.slice A n c, .slice B m d] w fun e w' => e = .returned (.bool (haveB xs ys)) ∧ w = w' := by
  have HX := Lib.hid hr; clear hr
  have HR := Lib.hid hr'; clear hr'
  go_enter Tryz.func112, Tryz.ntmps112
  go_wp2
  go_loop [5] (fun i => ∃ k : Nat, k ≤ m ∧ i = .int .i64 k ∧ ∀ j, j < k → hasB xs (nth ys j) = true) (fun i => m - (intOf i).toNat)
  case atStart => exact ⟨0, Nat.zero_le _, rfl, fa_zero⟩
  case round =>
    obtain ⟨k, hk, rfl, hp⟩ := hrel
    have HP := Lib.hid hp; clear hp
    by_cases hlt : k < m
    · obtain ⟨b, off, rfl, _, hc⟩ := HR.out.at_ hlt
      obtain ⟨c1, _⟩ := hc k hlt
      clear hc
      by_cases he : hasB xs (nth ys k) = true
      · have HE := Lib.hid he; clear he
        have hq := idx_pos HE.out
        go_wp2_with (go_at_call 110; refine (l1At_any _ _ _ xs _ lo _ HX.out hn).mono ?_; rintro e w' ⟨rfl, rfl⟩)
        go_round
        case rel => exact ⟨k + 1, by omega, by go_num, fa_succ HP.out HE.out⟩
        case measure => simp [intOf]; omega
      · have HE := Lib.hid (bf he); clear he
        have hq := idx_neg HE.out
        go_wp2_with (go_at_call 110; refine (l1At_any _ _ _ xs _ lo _ HX.out hn).mono ?_; rintro e w' ⟨rfl, rfl⟩)
        go_ret
        exact ⟨ret_b (allN_false (j := k) (HR.out.1 ▸ hlt) HE.out).symm, rfl⟩
    · go_wp2_with fail
      go_ret
      exact ⟨ret_b (allN_true (fun j hj => HP.out j (by have := HR.out.1; omega))).symm, rfl⟩

theorem namesHave_any (A B : Option Addr) (n c m d : Nat) (xs ys : List Str) (lo lo' : Nat) (w : World) (hr : RStr w lo A n xs) (hn : n ≤ 1048576) (hr' : RStr w lo' B m ys) (hm : m ≤ 1048576) :
    Calls Tryz.prog 104 #[.slice A n c, .slice B m d] w fun e w' => e = .returned (.bool (haveB xs ys)) ∧ w = w' := by
  have HX := Lib.hid hr; clear hr
  have HR := Lib.hid hr'; clear hr'
  go_enter Tryz.func104, Tryz.ntmps104
  go_wp2
  go_loop [9] (fun i => ∃ k : Nat, k ≤ m ∧ i = .int .i64 k ∧ ∀ j, j < k → hasB xs (nth ys j) = true) (fun i => m - (intOf i).toNat)
  case atStart => exact ⟨0, Nat.zero_le _, rfl, fa_zero⟩
  case round =>
    obtain ⟨k, hk, rfl, hp⟩ := hrel
    have HP := Lib.hid hp; clear hp
    by_cases hlt : k < m
    · obtain ⟨b, off, rfl, _, hc⟩ := HR.out.at_ hlt
      obtain ⟨c1, _⟩ := hc k hlt
      clear hc
      by_cases he : hasB xs (nth ys k) = true
      · go_wp2_with (go_at_call 67; refine (contains_any _ _ _ xs _ lo _ HX.out hn).mono ?_; rintro e w' ⟨rfl, rfl⟩)
        go_round
        case rel => exact ⟨k + 1, by omega, by go_num, fa_succ HP.out he⟩
        case measure => simp [intOf]; omega
      · have he := (bf he)
        go_wp2_with (go_at_call 67; refine (contains_any _ _ _ xs _ lo _ HX.out hn).mono ?_; rintro e w' ⟨rfl, rfl⟩)
        go_ret
        exact ⟨ret_b (allN_false (j := k) (HR.out.1 ▸ hlt) he).symm, rfl⟩
    · go_wp2_with fail
      go_ret
      exact ⟨ret_b (allN_true (fun j hj => HP.out j (by have := HR.out.1; omega))).symm, rfl⟩

end Go.Proofs.YthdfefgianokgaaGreatDoor

/- Drawing: what is drawn is some value; it is not told which. -/
namespace Go.Proofs.YthdfefgianokgaaGreatDoor
open Go.RowKit

theorem xor_in (x : Nat) (n : Int) (hx : x < 4611686018427387904) (hn : 1 ≤ n) :
    0 ≤ (bits .xor .i64 (x : Int) ((x : Int) / 64)).tmod n ∧ (bits .xor .i64 (x : Int) ((x : Int) / 64)).tmod n < n := by
  have h := i64_xor_pos x (x / 64) (by omega) (by omega)
  have e : (((x / 64 : Nat)) : Int) = (x : Int) / 64 := by omega
  rw [e] at h
  exact ⟨Int.tmod_nonneg _ h.1, Int.tmod_lt_of_pos _ (by omega)⟩

def PickQ (T : TypeId) (g p : Nat) (n : Int) (w : World) (e : Ending) (w' : World) : Prop :=
  ∃ v : Int, e = .returned (.int .i64 v) ∧ 0 ≤ v ∧ (1 ≤ n → v < n) ∧ v ≤ 1099511627776 ∧ Rd T w' g (p + 1) ∧ On g w w' ∧ w'.heap.size = w.heap.size
theorem pick_any (g p : Nat) (n : Int) (w : World) (h : Rd 60 w g p) (hp : p ≤ 1099511627776) (hn : n ≤ 1099511627776) :
    Calls Tryz.prog 19 #[.pointer (some ⟨g, 0, none⟩), .int .i64 n] w (PickQ 60 g p n w) := by
  have HL := Lib.hid h.lt
  have HN := Lib.hid (Rd.step h)
  have HO := Lib.hid ((On.refl g w).set_ 1 (.int .i64 ((p : Int) + 1)))
  have HS := Lib.hid (show (w.setCell ⟨g, 1, none⟩ (.int .i64 ((p : Int) + 1))).heap.size = w.heap.size by simp [World.setCell])
  obtain ⟨A, len, c, hlen, hg, hr⟩ := h
  have hr1 : w.cell? ⟨g, 1, none⟩ = some (.int .i64 (p : Int)) := by simp [World.cell?, hg]
  have hr2 : w.frozen? ⟨g, 1, none⟩ = false := by simp [World.frozen?, hg]
  have hr3 : (w.setCell ⟨g, 1, none⟩ (.int .i64 ((p : Int) + 1))).cell? ⟨g, 0, none⟩ = some (.slice A len c) := by simp [World.cell?, World.setCell, Array.getElem?_modify, hg]
  have hr4 : (w.setCell ⟨g, 1, none⟩ (.int .i64 ((p : Int) + 1))).cell? ⟨g, 1, none⟩ = some (.int .i64 ((p : Int) + 1)) := by simp [World.cell?, World.setCell, Array.getElem?_modify, hg]
  clear hg
  by_cases h1 : n < 1
  · go_enter Tryz.func19, Tryz.ntmps19
    go_wp2_with fail
    go_ret
    exact ⟨0, rfl, by omega, by omega, by omega, HN.out, HO.out, HS.out⟩
  by_cases h2 : len < 1
  · have h3 : ((len : Int) == 0) = true := by rw [beq_iff_eq]; omega
    go_enter Tryz.func19, Tryz.ntmps19
    go_wp2_with fail
    go_ret
    exact ⟨0, rfl, by omega, by omega, by omega, HN.out, HO.out, HS.out⟩
  have h3 : ((len : Int) == 0) = false := by rw [beq_eq_false_iff_ne]; omega
  obtain ⟨b, off, rfl, hbg, hc⟩ := hr (by omega)
  have hcs : ∀ k, k < len → ∃ u : Nat, u < 256 ∧ (w.setCell ⟨g, 1, none⟩ (.int .i64 ((p : Int) + 1))).cell? ⟨b, off + k, none⟩ = some (.int .u8 (u : Int)) := fun k hk => by
    obtain ⟨u, hu, hcu⟩ := hc k hk
    exact ⟨u, hu, (World.cell?_setCell_other w _ _ _ (fun e => by injection e; omega)).trans hcu⟩
  clear hc hr
  by_cases h4 : p < len
  · obtain ⟨u, hu, hcu⟩ := hcs p h4
    clear hcs
    have hu2 : (u : Int) < 256 := by omega
    go_enter Tryz.func19, Tryz.ntmps19
    go_wp2_with fail
    go_ret
    exact ⟨_, rfl, Int.emod_nonneg _ (by omega), fun _ => Int.emod_lt_of_pos _ (by omega), by have := Int.emod_lt_of_pos (u : Int) (show (0 : Int) < n by omega); omega, HN.out, HO.out, HS.out⟩
  · have hl0 : 0 < len := by omega
    have hT1 : (p : Int).tmod (len : Int) = ((p % len : Nat) : Int) := rfl
    have hT2 : ((p : Int) * 7 + 3).tmod (len : Int) = (((p * 7 + 3) % len : Nat) : Int) := rfl
    have hm1 : p % len < len := Nat.mod_lt _ hl0
    have hm2 : (p * 7 + 3) % len < len := Nat.mod_lt _ hl0
    generalize p % len = i1 at hT1 hm1
    generalize (p * 7 + 3) % len = i2 at hT2 hm2
    obtain ⟨u, hu, hcu⟩ := hcs i1 hm1
    obtain ⟨v, hv, hcv⟩ := hcs i2 hm2
    clear hcs
    have hdl : p / len ≤ p := Nat.div_le_self _ _
    obtain ⟨q, hq⟩ : ∃ q, q = p / len := ⟨_, rfl⟩
    have hz : ¬ len = 0 := by omega
    have hT3 : (p : Int).tdiv (len : Int) = (q : Int) := by rw [hq]; rfl
    rw [← hq] at hdl
    have W1 : IntKind.i64.wrap ((u : Int) * 131) = (u : Int) * 131 := IntWalk.i64_in _ (by omega)
    have W2 : IntKind.i64.wrap ((p : Int) * 7) = (p : Int) * 7 := IntWalk.i64_in _ (by omega)
    have W3 : IntKind.i64.wrap ((p : Int) * 7 + 3) = (p : Int) * 7 + 3 := IntWalk.i64_in _ (by omega)
    have W4 : IntKind.i64.wrap ((v : Int) * 1117) = (v : Int) * 1117 := IntWalk.i64_in _ (by omega)
    have W5 : IntKind.i64.wrap ((u : Int) * 131 + (v : Int) * 1117) = (u : Int) * 131 + (v : Int) * 1117 := IntWalk.i64_in _ (by omega)
    have W6 : IntKind.i64.wrap ((p : Int) * 29) = (p : Int) * 29 := IntWalk.i64_in _ (by omega)
    have W7 : IntKind.i64.wrap ((u : Int) * 131 + (v : Int) * 1117 + (p : Int) * 29) = (u : Int) * 131 + (v : Int) * 1117 + (p : Int) * 29 := IntWalk.i64_in _ (by omega)
    have W8 : IntKind.i64.wrap (q : Int) = (q : Int) := IntWalk.i64_in _ (by omega)
    have W9 : IntKind.i64.wrap ((q : Int) * 53) = (q : Int) * 53 := IntWalk.i64_in _ (by omega)
    have W10 : IntKind.i64.wrap ((u : Int) * 131 + (v : Int) * 1117 + (p : Int) * 29 + (q : Int) * 53) = (u : Int) * 131 + (v : Int) * 1117 + (p : Int) * 29 + (q : Int) * 53 := IntWalk.i64_in _ (by omega)
    clear hq
    go_enter Tryz.func19, Tryz.ntmps19
    go_wp2_with fail
    go_quiet (fail)
    clear W1 W2 W3 W4 W5 W6 W7 W8 W9 W10 hT1 hT2 hT3
    obtain ⟨x, hx⟩ : ∃ x : Nat, (x : Int) = (u : Int) * 131 + (v : Int) * 1117 + (p : Int) * 29 + (q : Int) * 53 := ⟨u * 131 + v * 1117 + p * 29 + q * 53, by omega⟩
    go_wp2_with fail
    go_ret
    have hxx := xor_in x n (by omega) (by omega)
    rw [hx] at hxx
    exact ⟨_, rfl, hxx.1, fun _ => hxx.2, by omega, HN.out, HO.out.drewN _, HS.out⟩

theorem of_any (g p : Nat) (A : Option Addr) (n c : Nat) (xs : List Str) (lo : Nat) (w : World) (h : Rd 60 w g p) (hp : p ≤ 1099511627776) (hr : RStr w lo A n xs) (hn : 1 ≤ n) (hn2 : n ≤ 1048576) (hlo : g < lo) :
    Calls Tryz.prog 31 #[.pointer (some ⟨g, 0, none⟩), .slice A n c] w fun e w' =>
      ∃ k : Nat, k < n ∧ e = .returned (.string (nth xs k)) ∧ Rd 60 w' g (p + 1) ∧ On g w w' ∧ w'.heap.size = w.heap.size := by
  have HH := Lib.hid h; clear h
  obtain ⟨b, off, rfl, ⟨hb1, hb2⟩, hc⟩ := RStr.at_ hr (k := 0) (by omega)
  have HC := Lib.hid hc; clear hc
  have HR := Lib.hid hr; clear hr
  go_enter Tryz.func31, Tryz.ntmps31
  go_wp2_with fail
  refine (pick_any g p _ _ HH.out hp (by omega)).mono ?_
  rintro e w1 ⟨v, rfl, hv0, hv1, hv2, hrd, hon, hsz⟩
  obtain ⟨k, rfl⟩ := Int.eq_ofNat_of_zero_le hv0
  have hk : k < n := by have := hv1 (by omega); omega
  have hcell := (hon.cell (o := off + k) hb2 (by omega)).trans (HC.out k hk).1
  have HRD := Lib.hid hrd; clear hrd
  have HON := Lib.hid hon; clear hon
  have HSZ := Lib.hid hsz; clear hsz
  clear hv1
  go_wp2_with fail
  go_ret
  exact ⟨k, hk, rfl, HRD.out, HON.out, HSZ.out⟩

/-- pick, as it is used. -/
theorem pick (w0 : World) (g q : Nat) (n : Int) (w : World) (h : Dr 60 w0 g q w) (hq : q ≤ 1099511627776) (hn : n ≤ 1099511627776) :
    Calls Tryz.prog 19 #[.pointer (some ⟨g, 0, none⟩), .int .i64 n] w fun e w' =>
      ∃ v : Int, e = .returned (.int .i64 v) ∧ 0 ≤ v ∧ (1 ≤ n → v < n) ∧ v ≤ 1099511627776 ∧ Dr 60 w0 g (q + 1) w' ∧ On g w w' := by
  obtain ⟨p, hp, hr⟩ := h.rd
  refine (pick_any g p n w hr (by omega) hn).mono ?_
  rintro e w' ⟨v, h1, h2, h3, h4, h5, h6, _⟩
  exact ⟨v, h1, h2, h3, h4, ⟨h.on.trans h6, p + 1, by omega, h5⟩, h6⟩
theorem of_ (w0 : World) (g q : Nat) (A : Option Addr) (n c : Nat) (xs : List Str) (lo : Nat) (w : World) (h : Dr 60 w0 g q w) (hq : q ≤ 1099511627776) (hr : RStr w lo A n xs) (hn : 1 ≤ n) (hn2 : n ≤ 1048576) (hlo : g < lo) :
    Calls Tryz.prog 31 #[.pointer (some ⟨g, 0, none⟩), .slice A n c] w fun e w' =>
      ∃ s : Str, e = .returned (.string s) ∧ s ∈ xs ∧ Dr 60 w0 g (q + 1) w' ∧ On g w w' := by
  obtain ⟨p, hp, hrd⟩ := h.rd
  refine (of_any g p A n c xs lo w hrd (by omega) hr hn hn2 hlo).mono ?_
  rintro e w' ⟨k, h1, h2, h5, h6, _⟩
  exact ⟨_, h2, mem_nth (by rw [hr.1]; exact h1), ⟨h.on.trans h6, p + 1, by omega, h5⟩, h6⟩

/-! ### The reader is made -/
def RByte (w : World) (A : Option Addr) (n : Nat) : Prop :=
  0 < n → ∃ b off, A = some ⟨b, off, none⟩ ∧ b < w.heap.size ∧ ∀ k, k < n → ∃ u : Nat, u < 256 ∧ w.cell? ⟨b, off + k, none⟩ = some (.int .u8 (u : Int))

theorem open_any (A : Option Addr) (n c : Nat) (w : World) (hr : RByte w A n) (hc : n ≤ c) (hn : n ≤ 1048576) :
    Calls Tryz.prog 18 #[.slice A n c] w fun e w' => e = .returned (.pointer (some ⟨w.heap.size, 0, none⟩)) ∧ Rd 60 w' w.heap.size 0 ∧ Below w.heap.size w w' := by
  have HR := Lib.hid hr; clear hr
  by_cases h : 2000 < n
  · go_enter Tryz.func18, Tryz.ntmps18
    go_wp2_with fail
    go_ret
    refine ⟨rfl, ⟨A, 2000, c, Nat.le_refl _, ?_, fun h0 => ?_⟩, (Below.refl _ _).alloc (Nat.le_refl _) _⟩
    · exact heap_new rfl
    · obtain ⟨b, off, e, hb, hk⟩ := HR.out (by omega)
      refine ⟨b, off, e, hb, fun k hk2 => ?_⟩
      obtain ⟨u, hu, hcu⟩ := hk k (by omega)
      exact ⟨u, hu, (((Below.refl w.heap.size w).alloc (Nat.le_refl _) _).cell (p := ⟨b, off + k, none⟩) hb).trans hcu⟩
  · go_enter Tryz.func18, Tryz.ntmps18
    go_wp2_with fail
    go_ret
    refine ⟨rfl, ⟨A, n, c, by omega, ?_, fun h0 => ?_⟩, (Below.refl _ _).alloc (Nat.le_refl _) _⟩
    · exact heap_new rfl
    · obtain ⟨b, off, e, hb, hk⟩ := HR.out (by omega)
      refine ⟨b, off, e, hb, fun k hk2 => ?_⟩
      obtain ⟨u, hu, hcu⟩ := hk k (by omega)
      exact ⟨u, hu, (((Below.refl w.heap.size w).alloc (Nat.le_refl _) _).cell (p := ⟨b, off + k, none⟩) hb).trans hcu⟩
end Go.Proofs.YthdfefgianokgaaGreatDoor

/- The frame of a law's row: what is common to all of them. -/
namespace Go.Proofs.YthdfefgianokgaaGreatDoor
open Go.ChangeShapes Go.WideShapes Go.ChangeAt Go.RowKit

theorem Tryz.own : ownKnob Tryz.prog.godebug = none := by kernel_rfl
theorem Tryz.laidOut : laidOutB Tryz.prog = true := by kernel_rfl
theorem Tryz.cellsByte : Tryz.prog.cellsOf 5 = 1 := by kernel_rfl

section
variable {H : Type} {enc : TypeId × Value → H} {P : Program}
end

/-- A '[]byte' that came in. -/
theorem open_code {H : Type} {enc : TypeId × Value → H} {W : World} {a0 : Option Addr} {len cap : Nat} {d : DataW H} {p : List MemPlace} {fuel : Nat}
    (h : DataW.trod enc Tryz.prog W 0 (fun _ => true) true fuel 22 (Value.cells (.slice a0 len cap)).toList = some (d, p)) : RByte W a0 len ∧ len ≤ cap ∧ cap ≤ maxLen := by
  rcases open_ints Tryz.underlying22 Tryz.underlying5 Tryz.cellsByte h with ⟨hcs, hx⟩ | ⟨a, len', cap', zs, hcs, _, hl, hm, hz, hx, hcell, hwz⟩
  · simp [Value.cells] at hcs
    obtain ⟨rfl, rfl, rfl⟩ := hcs
    exact ⟨fun h => absurd h (by omega), Nat.le_refl _, by unfold maxLen; omega⟩
  · simp [Value.cells] at hcs
    obtain ⟨rfl, rfl, rfl⟩ := hcs
    refine ⟨fun h0 => ?_, hl, hm⟩
    have hlz : len ≤ zs.length := by rw [hz]; split <;> omega
    obtain ⟨b, off, spot⟩ := a
    have hspot : spot = none := by simpa [Addr.add] using World.cell?_spot (hcell 0 (by omega))
    subst hspot
    refine ⟨b, off, rfl, ?_, fun k hk => ?_⟩
    · exact World.block_lt_of_cell? W _ (hcell 0 (by omega))
    · have hk2 : k < zs.length := by omega
      have hc := hcell k hk2
      rw [add_plain] at hc
      have hw := hwz (zs.getD k 0) (by rw [List.getD_eq_getElem?_getD, List.getElem?_eq_getElem hk2]; exact List.getElem_mem hk2)
      have h2 : 0 ≤ zs.getD k 0 ∧ zs.getD k 0 < 256 := by
        have h3 : IntKind.u8.min ≤ zs.getD k 0 ∧ zs.getD k 0 ≤ IntKind.u8.max := by simpa [Lit.wf] using hw
        have e1 : IntKind.u8.min = 0 := by decide
        have e2 : IntKind.u8.max = 255 := by decide
        rw [e1, e2] at h3
        omega
      refine ⟨(zs.getD k 0).toNat, by omega, ?_⟩
      rw [hc]
      congr 2
      omega
end Go.Proofs.YthdfefgianokgaaGreatDoor

/- What the exact laws need beside the functions: sizes, copies, equality, marks. -/
namespace Go.Proofs.YthdfefgianokgaaGreatDoor
open Go.RowKit

theorem conv1 (W : World) (b : Nat) (n : Int) (h : W.heap[b]? = some (.cells #[.int .u8 n] 5 (0, 0))) :
    (convert 22 9 (.slice (some ⟨b, 0, none⟩) 1 1)).run Tryz.prog W = .ok (.string ⟨#[UInt8.ofNat n.toNat]⟩) W := by
  rw [run_convert_bytes_string W _ _ _ _ _ _ Tryz.underlying22 Tryz.underlying5 Tryz.underlying9]
  rw [run_bytesToString W ⟨b, 0, none⟩ 1 1 [n]]
  · rfl
  · have hc := (blk_cl (k := 0) h rfl).1
    exact run_loadCells_list (P := Tryz.prog) (w := W) ⟨b, 0, none⟩ [.int .u8 n] (fun j v hv => by
      match j, hv with
      | 0, hv =>
        have : v = .int .u8 n := by simpa using hv.symm
        subst this
        exact hc)

theorem bcat (a b : List UInt8) : (⟨a.toArray⟩ : ByteArray) ++ ⟨b.toArray⟩ = ⟨(a ++ b).toArray⟩ := by
  apply ByteArray.ext; simp
end Go.Proofs.YthdfefgianokgaaGreatDoor

/- Flows: what is ready, in which order; which flows are valid. No program in sight. -/
namespace Go.Proofs.YthdfefgianokgaaGreatDoor
open Go.RowKit

structure Flow where
  ver : Int
  steps : List Step
  deriving Inhabited

def okS (xs : List Str) : Prop := xs.length ≤ 1048576 ∧ ∀ j, j < xs.length → (nth xs j).size ≤ maxLen
def okStep (s : Step) : Prop := s.name.size ≤ maxLen ∧ okS s.after
def stepB (s : Step) : Bool := ascB s.after && nameB s.name && !hasB s.after s.name && decide (s.after.length ≤ 4)
def okSteps (ss : List Step) : Prop := ss.length ≤ 1048576 ∧ ∀ j, j < ss.length → okStep (nth ss j)

def namesOf (ss : List Step) : List Str := ss.map (·.name)
theorem namesOf_len (ss : List Step) : (namesOf ss).length = ss.length := by simp [namesOf]
theorem namesOf_at {ss : List Step} {k : Nat} (hk : k < ss.length) : nth (namesOf ss) k = (nth ss k).name := by
  rw [nth_eq (by rw [namesOf_len]; exact hk), nth_eq hk]; simp [namesOf]
theorem namesOf_ok {ss : List Step} (h : okSteps ss) : okS (namesOf ss) :=
  ⟨by rw [namesOf_len]; exact h.1, fun j hj => by rw [namesOf_len] at hj; rw [namesOf_at hj]; exact (h.2 j hj).1⟩

/-- A step is not done, but all that it comes after is. -/
def rdyB (done : List Str) (s : Step) : Bool := !hasB done s.name && haveB done s.after
def rdyTo (ss : List Step) (done : List Str) (k : Nat) : List Str := ((ss.take k).filter (rdyB done)).map (·.name)
def rdyL (ss : List Step) (done : List Str) : List Str := (ss.filter (rdyB done)).map (·.name)
theorem rdyTo_yes {ss : List Step} {done : List Str} {k : Nat} (hk : k < ss.length) (h : rdyB done (nth ss k) = true) : rdyTo ss done (k + 1) = rdyTo ss done k ++ [(nth ss k).name] := by
  unfold rdyTo; rw [take_nth hk, List.filter_append, List.map_append]; simp [h]
theorem rdyTo_no {ss : List Step} {done : List Str} {k : Nat} (hk : k < ss.length) (h : rdyB done (nth ss k) = false) : rdyTo ss done (k + 1) = rdyTo ss done k := by
  unfold rdyTo; rw [take_nth hk, List.filter_append, List.map_append]; simp [h]
theorem rdyTo_all {ss : List Step} {done : List Str} {k : Nat} (hk : ss.length ≤ k) : rdyTo ss done k = rdyL ss done := by
  unfold rdyTo rdyL; rw [List.take_of_length_le hk]
theorem rdyL_len (ss : List Step) (done : List Str) : (rdyL ss done).length ≤ ss.length := by
  unfold rdyL; rw [List.length_map]; exact List.length_filter_le _ _
theorem rdyL_mem {ss : List Step} {done : List Str} {x : Str} : x ∈ rdyL ss done ↔ ∃ s ∈ ss, rdyB done s = true ∧ s.name = x := by
  unfold rdyL; simp [List.mem_map, List.mem_filter, and_assoc]
theorem rdyL_new {ss : List Step} {done : List Str} {x : Str} (h : x ∈ rdyL ss done) : x ∉ done ∧ x ∈ namesOf ss := by
  obtain ⟨s, hs, hr, rfl⟩ := rdyL_mem.1 h
  unfold rdyB at hr
  simp only [Bool.and_eq_true, Bool.not_eq_true'] at hr
  exact ⟨hasB_false.1 hr.1, List.mem_map.2 ⟨s, hs, rfl⟩⟩

/-- The first step that is ready. -/
theorem rdyL_first {ss : List Step} {done : List Str} {k : Nat} (hp : ∀ j, j < k → rdyB done (nth ss j) = false) (hk : k < ss.length) (h : rdyB done (nth ss k) = true) : ∃ r, rdyL ss done = (nth ss k).name :: r := by
  have e : rdyL ss done = rdyTo ss done k ++ ((ss.drop k).filter (rdyB done)).map (·.name) := by
    unfold rdyL rdyTo
    rw [← List.map_append, ← List.filter_append, List.take_append_drop]
  have e2 : ss.drop k = nth ss k :: ss.drop (k + 1) := by rw [nth_eq hk]; exact List.drop_eq_getElem_cons hk
  have e3 : rdyTo ss done k = [] := by
    unfold rdyTo
    rw [List.map_eq_nil_iff, List.filter_eq_nil_iff]
    intro a ha
    obtain ⟨j, hj, rfl⟩ := nth_of_mem ha
    rw [List.length_take] at hj
    have e4 : nth (ss.take k) j = nth ss j := by rw [nth_eq (by rw [List.length_take]; exact hj), nth_eq (by omega), List.getElem_take]
    rw [e4, hp j (by omega)]; simp
  rw [e, e3, e2, List.filter_cons_of_pos h, List.map_cons]
  exact ⟨_, rfl⟩
theorem rdyL_none {ss : List Step} {done : List Str} (hp : ∀ j, j < ss.length → rdyB done (nth ss j) = false) : rdyL ss done = [] := by
  unfold rdyL
  rw [List.map_eq_nil_iff, List.filter_eq_nil_iff]
  intro a ha
  obtain ⟨j, hj, rfl⟩ := nth_of_mem ha
  rw [hp j hj]; simp

/-- One step more, the first one that is ready. -/
def ordStep (ss : List Step) (o : List Str) : List Str := match rdyL ss o with
  | [] => o
  | x :: _ => o ++ [x]
def ordTo (ss : List Step) : Nat → List Str
  | 0 => []
  | k + 1 => ordStep ss (ordTo ss k)
def ordL (ss : List Step) : List Str := ordTo ss ss.length
theorem ordStep_nil {ss : List Step} {o : List Str} (h : rdyL ss o = []) : ordStep ss o = o := by unfold ordStep; rw [h]
theorem ordStep_cons {ss : List Step} {o : List Str} {x : Str} {r : List Str} (h : rdyL ss o = x :: r) : ordStep ss o = o ++ [x] := by unfold ordStep; rw [h]
theorem ordTo_len (ss : List Step) : ∀ k, (ordTo ss k).length ≤ k
  | 0 => by simp [ordTo]
  | k + 1 => by
    have := ordTo_len ss k
    rw [ordTo]
    cases h : rdyL ss (ordTo ss k) with
    | nil => rw [ordStep_nil h]; omega
    | cons x r => rw [ordStep_cons h, List.length_append]; simp; omega
theorem ordTo_nodup (ss : List Step) : ∀ k, (ordTo ss k).Nodup ∧ ∀ x ∈ ordTo ss k, x ∈ namesOf ss
  | 0 => by simp [ordTo]
  | k + 1 => by
    obtain ⟨h1, h2⟩ := ordTo_nodup ss k
    rw [ordTo]
    cases h : rdyL ss (ordTo ss k) with
    | nil => rw [ordStep_nil h]; exact ⟨h1, h2⟩
    | cons x r =>
      rw [ordStep_cons h]
      obtain ⟨h3, h4⟩ := rdyL_new (ss := ss) (done := ordTo ss k) (x := x) (by rw [h]; simp)
      refine ⟨List.nodup_append.2 ⟨h1, by simp, by intro a ha b hb; simp at hb; subst hb; rintro rfl; exact h3 ha⟩, fun y hy => ?_⟩
      rcases List.mem_append.1 hy with h5 | h5
      · exact h2 y h5
      · simp at h5; subst h5; exact h4
theorem nodup_le {α : Type} [DecidableEq α] : ∀ {xs ys : List α}, xs.Nodup → (∀ x ∈ xs, x ∈ ys) → xs.length ≤ ys.length
  | [], _, _, _ => by simp
  | x :: xs, ys, hn, hs => by
    have hx := hs x (by simp)
    have h1 := List.nodup_cons.1 hn
    have : xs.length ≤ (ys.erase x).length := nodup_le h1.2 (fun y hy => (List.mem_erase_of_ne (by rintro rfl; exact h1.1 hy)).2 (hs y (by simp [hy])))
    rw [List.length_erase_of_mem hx] at this
    have h2 : 0 < ys.length := List.length_pos_of_mem hx
    simp
    omega
theorem ordTo_len2 (ss : List Step) (k : Nat) : (ordTo ss k).length ≤ ss.length := by
  obtain ⟨h1, h2⟩ := ordTo_nodup ss k
  have := nodup_le h1 h2
  rwa [namesOf_len] at this
theorem ordTo_stop {ss : List Step} {k : Nat} (h : rdyL ss (ordTo ss k) = []) : ∀ m, k ≤ m → ordTo ss m = ordTo ss k := by
  intro m hm
  obtain ⟨d, rfl⟩ : ∃ d, m = k + d := ⟨m - k, by omega⟩
  induction d with
  | zero => rfl
  | succ d ih =>
    have := ih (by omega)
    show ordStep ss (ordTo ss (k + d)) = _
    rw [this, ordStep_nil h]
/-- Where all rounds up to now had a step ready, there are as many as rounds. -/
theorem ordTo_end {ss : List Step} {k : Nat} (hl : (ordTo ss k).length = k) (h : rdyL ss (ordTo ss k) = []) : ordTo ss k = ordL ss :=
  (ordTo_stop h ss.length (by have := ordTo_len2 ss k; omega)).symm

def stepAt (ss : List Step) (j : Nat) : Bool :=
  stepB (nth ss j) && (decide (j = 0) || strLt (nth ss (j - 1)).name (nth ss j).name) && haveB (namesOf ss) (nth ss j).after
def flowB (f : Flow) : Bool :=
  allN f.steps.length (stepAt f.steps) && inB f.ver 1 99 && inB f.steps.length 1 8 && decide ((ordL f.steps).length = f.steps.length)

theorem flowB_iff {f : Flow} : flowB f = true ↔ (∀ j, j < f.steps.length → stepAt f.steps j = true) ∧ (1 ≤ f.ver ∧ f.ver ≤ 99) ∧ (1 ≤ f.steps.length ∧ f.steps.length ≤ 8) ∧ (ordL f.steps).length = f.steps.length := by
  unfold flowB inB
  simp only [Bool.and_eq_true, decide_eq_true_eq, allN_iff]
  constructor
  · rintro ⟨⟨⟨h1, h2⟩, h3⟩, h4⟩
    exact ⟨h1, h2, by omega, h4⟩
  · rintro ⟨h1, h2, h3, h4⟩
    exact ⟨⟨⟨h1, h2⟩, by omega⟩, h4⟩
end Go.Proofs.YthdfefgianokgaaGreatDoor

/- Steps: which are valid. -/
namespace Go.Proofs.YthdfefgianokgaaGreatDoor
open Go.RowKit

theorem asc_ways (xs : List Str) (k : Nat) : nameB (nth xs k) = false ∨ (nameB (nth xs k) = true ∧ (k = 0 ∨ (0 < k ∧ (strLt (nth xs (k - 1)) (nth xs k) = false ∨ strLt (nth xs (k - 1)) (nth xs k) = true)))) := by
  cases nameB (nth xs k) <;> cases strLt (nth xs (k - 1)) (nth xs k) <;> simp <;> omega
theorem ascB_bad {xs : List Str} {k : Nat} (hk : k < xs.length) (h : ascAt xs k = false) : ascB xs = false := allN_false hk h

set_option maxRecDepth 100000 in
theorem namesAscend_any (A : Option Addr) (n c : Nat) (xs : List Str) (lo : Nat) (w : World) (hr : RStr w lo A n xs) (hok : okS xs) :
    Calls Tryz.prog 102 #[.slice A n c] w fun e w' => e = .returned (.bool (ascB xs)) ∧ w = w' := by
  have hn : n ≤ 1048576 := by have := hok.1; rw [hr.1] at this; exact this
  have HO := Lib.hid hok; clear hok
  have HR := Lib.hid hr; clear hr
  go_enter Tryz.func102, Tryz.ntmps102
  go_wp2_with fail
  go_loop [7] (fun i => ∃ k : Nat, k ≤ n ∧ i = .int .i64 k ∧ ∀ j, j < k → ascAt xs j = true) (fun i => n - (intOf i).toNat)
  case atStart => exact ⟨0, Nat.zero_le _, rfl, fa_zero⟩
  case round =>
    obtain ⟨k, hk, rfl, hp⟩ := hrel
    have HP := Lib.hid hp; clear hp
    by_cases hlt : k < n
    · obtain ⟨b, off, rfl, _, hc⟩ := RStr.at_ HR.out hlt
      obtain ⟨c1, _⟩ := hc k hlt
      have HL := Lib.hid (show k < xs.length by rw [HR.out.1]; exact hlt)
      have hsz := HO.out.2 k HL.out
      rcases asc_ways xs k with h1 | ⟨h1, h2 | ⟨h2, h3 | h3⟩⟩
      · clear hc
        have HG : Hid (ascAt xs k = false) := by simp [Hid, ascAt, h1]
        go_wp2_with (go_at_call 123; refine (nameI_any _ _ hsz).mono ?_; rintro e w' ⟨rfl, rfl⟩)
        go_ret
        exact ⟨ret_b (ascB_bad HL.out HG.out).symm, rfl⟩
      · clear hc
        have HG : Hid (ascAt xs k = true) := by
          have e0 : decide (k = 0) = true := by simpa using h2
          unfold Hid ascAt; rw [h1, e0]; rfl
        have h6 : decide ((0 : Int) < (k : Int)) = false := by simp; omega
        have h7 : decide (0 < k) = false := by simp; omega
        clear h2
        go_wp2_with (go_at_call 123; refine (nameI_any _ _ hsz).mono ?_; rintro e w' ⟨rfl, rfl⟩)
        go_round
        case rel => exact ⟨k + 1, by omega, by go_num, fa_succ HP.out HG.out⟩
        case measure => simp [intOf]; omega
      · obtain ⟨d1, _⟩ := hc (k - 1) (by omega)
        clear hc
        have h6 : decide ((0 : Int) < (k : Int)) = true := by simp; omega
        have h8 : (Op.bytesLess (ByteArray.toList (nth xs k)) (ByteArray.toList (nth xs (k - 1))) || ByteArray.toList (nth xs k) == ByteArray.toList (nth xs (k - 1))) = true := by rw [str_le, h3]; rfl
        have HG : Hid (ascAt xs k = false) := by simp [Hid, ascAt, h3]; omega
        go_wp2_with (go_at_call 123; refine (nameI_any _ _ hsz).mono ?_; rintro e w' ⟨rfl, rfl⟩)
        go_ret
        exact ⟨ret_b (ascB_bad HL.out HG.out).symm, rfl⟩
      · obtain ⟨d1, _⟩ := hc (k - 1) (by omega)
        clear hc
        have h6 : decide ((0 : Int) < (k : Int)) = true := by simp; omega
        have h8 : (Op.bytesLess (ByteArray.toList (nth xs k)) (ByteArray.toList (nth xs (k - 1))) || ByteArray.toList (nth xs k) == ByteArray.toList (nth xs (k - 1))) = false := by rw [str_le, h3]; rfl
        have HG : Hid (ascAt xs k = true) := by simp [Hid, ascAt, h1, h3]
        go_wp2_with (go_at_call 123; refine (nameI_any _ _ hsz).mono ?_; rintro e w' ⟨rfl, rfl⟩)
        go_round
        case rel => exact ⟨k + 1, by omega, by go_num, fa_succ HP.out HG.out⟩
        case measure => simp [intOf]; omega
    · go_wp2_with fail
      go_ret
      exact ⟨ret_b (allN_true (fun j hj => HP.out j (by have := HR.out.1; omega))).symm, rfl⟩

theorem step_waysI (s : Step) : nameB s.name = false ∨ (nameB s.name = true ∧ (4 < s.after.length ∨ (s.after.length ≤ 4 ∧ (ascB s.after = false ∨ (ascB s.after = true ∧ (hasB s.after s.name = true ∨ hasB s.after s.name = false)))))) := by
  cases nameB s.name <;> cases ascB s.after <;> cases hasB s.after s.name <;> simp <;> omega

set_option maxRecDepth 100000 in
theorem stepI_any (A : Option Addr) (n c : Nat) (s : Step) (lo : Nat) (w : World) (hr : RStr w lo A n s.after) (hok : okStep s) :
    Calls Tryz.prog 93 #[.agg #[.string s.name, .slice A n c, .bool s.undo]] w fun e w' => e = .returned (.bool (stepB s)) ∧ Below w.heap.size w w' := by
  have hsz := hok.1
  have hn : n ≤ 1048576 := by have := hok.2.1; rw [hr.1] at this; exact this
  have HO := Lib.hid hok; clear hok
  have HR := Lib.hid hr; clear hr
  have HS := Lib.hid (step_waysI s)
  have HB := Lib.hid (fun o => (Below.refl w.heap.size w).alloc (Nat.le_refl _) o)
  rcases HS.out with h1 | ⟨h1, h2 | ⟨h2, h3 | ⟨h3, h4 | h4⟩⟩⟩
  all_goals have HG := Lib.hid (show stepB s = (ascB s.after && nameB s.name && !hasB s.after s.name && decide (s.after.length ≤ 4)) from rfl)
  all_goals rw [HR.out.1] at HG
  · go_enter Tryz.func93, Tryz.ntmps93
    go_wp2_with (go_at_call 123; refine (nameI_any _ _ hsz).mono ?_; rintro e w' ⟨rfl, rfl⟩)
    go_ret
    exact ⟨ret_b (by rw [HG.out, h1]; simp), HB.out _⟩
  · rw [HR.out.1] at h2
    go_enter Tryz.func93, Tryz.ntmps93
    go_wp2_with (go_at_call 123; refine (nameI_any _ _ hsz).mono ?_; rintro e w' ⟨rfl, rfl⟩)
    go_ret
    exact ⟨ret_b (by rw [HG.out, show decide (n ≤ 4) = false by simp; omega]; simp), HB.out _⟩
  · rw [HR.out.1] at h2
    go_enter Tryz.func93, Tryz.ntmps93
    go_wp2_with (first | (go_at_call 123; refine (nameI_any _ _ hsz).mono ?_; rintro e w' ⟨rfl, rfl⟩) | (go_at_call 102; refine (namesAscend_any _ _ _ s.after _ _ (HR.out.alloc _) HO.out.2).mono ?_; rintro e w' ⟨rfl, rfl⟩))
    go_ret
    exact ⟨ret_b (by rw [HG.out, h3]; simp), HB.out _⟩
  · rw [HR.out.1] at h2
    go_enter Tryz.func93, Tryz.ntmps93
    go_wp2_with (first | (go_at_call 123; refine (nameI_any _ _ hsz).mono ?_; rintro e w' ⟨rfl, rfl⟩) | (go_at_call 102; refine (namesAscend_any _ _ _ s.after _ _ (HR.out.alloc _) HO.out.2).mono ?_; rintro e w' ⟨rfl, rfl⟩) | (go_at_call 67; refine (contains_any _ _ _ s.after _ _ _ (HR.out.alloc _) hn).mono ?_; rintro e w' ⟨rfl, rfl⟩))
    go_ret
    exact ⟨ret_b (by rw [HG.out, h4]; simp), HB.out _⟩
  · rw [HR.out.1] at h2
    go_enter Tryz.func93, Tryz.ntmps93
    go_wp2_with (first | (go_at_call 123; refine (nameI_any _ _ hsz).mono ?_; rintro e w' ⟨rfl, rfl⟩) | (go_at_call 102; refine (namesAscend_any _ _ _ s.after _ _ (HR.out.alloc _) HO.out.2).mono ?_; rintro e w' ⟨rfl, rfl⟩) | (go_at_call 67; refine (contains_any _ _ _ s.after _ _ _ (HR.out.alloc _) hn).mono ?_; rintro e w' ⟨rfl, rfl⟩))
    go_ret
    exact ⟨ret_b (by rw [HG.out, h1, h3, h4, show decide (n ≤ 4) = true by simp; omega]; rfl), HB.out _⟩

set_option maxRecDepth 100000 in
set_option maxHeartbeats 400000 in
theorem stepS_any (A : Option Addr) (n c : Nat) (s : Step) (lo : Nat) (w : World) (hr : RStr w lo A n s.after) (hok : okStep s) :
    Calls Tryz.prog 70 #[.agg #[.string s.name, .slice A n c, .bool s.undo]] w fun e w' => e = .returned (.bool (stepB s)) ∧ Below w.heap.size w w' := by
  have hszn := hok.1
  have hn : n ≤ 1048576 := by have := hok.2.1; rw [hr.1] at this; exact this
  have HO := Lib.hid hok.2; clear hok
  have HR := Lib.hid hr; clear hr
  have HB := Lib.hid (fun m => below_drewN ((Below.refl w.heap.size w).alloc (Nat.le_refl _) (.cells #[.string s.name, .slice A n c, .bool s.undo] 35)) m)
  go_enter Tryz.func70, Tryz.ntmps70
  go_wp2_with fail
  go_loopw [3] (fun i wr => ∃ k m : Nat, k ≤ n ∧ i = .int .i64 k ∧ wr = (w.alloc (.cells #[.string s.name, .slice A n c, .bool s.undo] 35)).drewN m ∧ ∀ j, j < k → ascAt s.after j = true) (fun i _ => n - (intOf i).toNat)
  case atStart => exact ⟨0, 0, Nat.zero_le _, rfl, rfl, fa_zero⟩
  case round =>
    obtain ⟨k, m, hk, rfl, rfl, hp⟩ := hrel
    have HP := Lib.hid hp; clear hp
    have HRM := Lib.hid ((HR.out.alloc (.cells #[.string s.name, .slice A n c, .bool s.undo] 35)).drewN m)
    by_cases hlt : k < n
    · obtain ⟨b, off, rfl, ⟨_, hbl⟩, hc⟩ := RStr.at_ HR.out hlt
      obtain ⟨c1, _⟩ := hc k hlt
      have HL := Lib.hid (show k < s.after.length by rw [HR.out.1]; exact hlt)
      have hsz := HO.out.2 k HL.out
      rcases asc_ways s.after k with h1 | ⟨h1, h2 | ⟨h2, h3 | h3⟩⟩
      · clear hc
        have HG : Hid (ascAt s.after k = false) := by simp [Hid, ascAt, h1]
        go_wp2_with fail
        go_quiet ((go_at_call 109; exact q_same2 (nameS_any _ _ hsz)))
        go_wp2_with fail
        go_ret
        exact ⟨ret_b (by unfold stepB; rw [ascB_bad HL.out HG.out]; rfl), by rw [World.drewN_drewN]; exact HB.out _⟩
      · clear hc
        have HG : Hid (ascAt s.after k = true) := by
          have e0 : decide (k = 0) = true := by simpa using h2
          unfold Hid ascAt; rw [h1, e0]; rfl
        have h6 : decide ((0 : Int) < (k : Int)) = false := by simp; omega
        have h7 : decide (0 < k) = false := by simp; omega
        clear h2
        go_wp2_with fail
        go_quiet ((go_at_call 109; exact q_same2 (nameS_any _ _ hsz)))
        go_wp2_with fail
        go_roundw
        case rel => exact ⟨k + 1, _, by omega, by go_num, rfl, fa_succ HP.out HG.out⟩
        case measure => simp [intOf]; omega
      · obtain ⟨d1, _⟩ := hc (k - 1) (by omega)
        clear hc
        have h6 : decide ((0 : Int) < (k : Int)) = true := by simp; omega
        have h8 : Op.bytesLess (ByteArray.toList (nth s.after (k - 1))) (ByteArray.toList (nth s.after k)) = false := h3
        have HG : Hid (ascAt s.after k = false) := by simp [Hid, ascAt, h3]; omega
        go_wp2_with fail
        go_quiet ((go_at_call 109; exact q_same2 (nameS_any _ _ hsz)))
        go_wp2_with fail
        go_ret
        exact ⟨ret_b (by unfold stepB; rw [ascB_bad HL.out HG.out]; rfl), by rw [World.drewN_drewN]; exact HB.out _⟩
      · obtain ⟨d1, _⟩ := hc (k - 1) (by omega)
        clear hc
        have h6 : decide ((0 : Int) < (k : Int)) = true := by simp; omega
        have h8 : Op.bytesLess (ByteArray.toList (nth s.after (k - 1))) (ByteArray.toList (nth s.after k)) = true := h3
        have HG : Hid (ascAt s.after k = true) := by simp [Hid, ascAt, h1, h3]
        go_wp2_with fail
        go_quiet ((go_at_call 109; exact q_same2 (nameS_any _ _ hsz)))
        go_wp2_with fail
        go_roundw
        case rel => exact ⟨k + 1, _, by omega, by go_num, rfl, fa_succ HP.out HG.out⟩
        case measure => simp [intOf]; omega
    · have HA := Lib.hid (show ascB s.after = true from allN_true (fun j hj => HP.out j (by have := HR.out.1; omega)))
      have HG := Lib.hid (show stepB s = (ascB s.after && nameB s.name && !hasB s.after s.name && decide (s.after.length ≤ 4)) from rfl)
      rw [HR.out.1, HA.out, Bool.true_and] at HG
      cases h1 : nameB s.name
      · go_wp2_with (go_at_call 109; refine (nameS_any _ _ hszn).mono ?_; rintro e w' ⟨rfl, rfl⟩)
        go_ret
        exact ⟨ret_b (by rw [HG.out, h1]; rfl), HB.out _⟩
      cases h2 : hasB s.after s.name
      · have h3 := idx_neg h2
        go_wp2_with (first | (go_at_call 109; refine (nameS_any _ _ hszn).mono ?_; rintro e w' ⟨rfl, rfl⟩) | (go_at_call 110; refine (l1At_any _ _ _ s.after _ _ _ HRM.out hn).mono ?_; rintro e w' ⟨rfl, rfl⟩))
        go_ret
        exact ⟨ret_b (by rw [HG.out, h1, h2]; simp; omega), HB.out _⟩
      · have h3 := idx_pos h2
        go_wp2_with (first | (go_at_call 109; refine (nameS_any _ _ hszn).mono ?_; rintro e w' ⟨rfl, rfl⟩) | (go_at_call 110; refine (l1At_any _ _ _ s.after _ _ _ HRM.out hn).mono ?_; rintro e w' ⟨rfl, rfl⟩))
        go_ret
        exact ⟨ret_b (by rw [HG.out, h1, h2]; rfl), HB.out _⟩
end Go.Proofs.YthdfefgianokgaaGreatDoor

/- Flows: the leaves. -/
namespace Go.Proofs.YthdfefgianokgaaGreatDoor
open Go.RowKit

set_option maxRecDepth 100000 in
theorem l2At_any (A : Option Addr) (n c : Nat) (ss : List Step) (s : Str) (lo : Nat) (w : World) (hr : RStep w lo A n ss) (hn : n ≤ 1048576) :
    Calls Tryz.prog 71 #[.slice A n c, .string s] w fun e w' => e = .returned (.int .i64 (idxI (namesOf ss) s)) ∧ w = w' := by
  have HR := Lib.hid hr; clear hr
  go_enter Tryz.func71, Tryz.ntmps71
  go_wp2_with fail
  go_loop [5] (fun i => ∃ k : Nat, k ≤ n ∧ i = .int .i64 k ∧ ∀ j, j < k → (nth ss j).name ≠ s) (fun i => n - (intOf i).toNat)
  case atStart => exact ⟨0, Nat.zero_le _, rfl, fa_zero⟩
  case round =>
    obtain ⟨k, hk, rfl, hp⟩ := hrel
    have HP := Lib.hid hp; clear hp
    by_cases hlt : k < n
    · obtain ⟨b, off, rfl, _, hc⟩ := RStep.at_ HR.out hlt
      obtain ⟨A', n', c', ⟨c1, _⟩, _⟩ := hc k hlt
      clear hc
      by_cases he : (nth ss k).name = s
      · have HE := Lib.hid he; clear he
        have hq := seq_t HE.out
        go_wp2
        go_ret
        exact ⟨ret_i (idxI_at (fun j hj => by rw [namesOf_at (by rw [HR.out.1]; omega)]; exact HP.out j hj) (by rw [namesOf_len, HR.out.1]; exact hlt) (by rw [namesOf_at (by rw [HR.out.1]; exact hlt)]; exact HE.out)).symm, rfl⟩
      · have HE := Lib.hid he; clear he
        have hq := seq_f HE.out
        go_wp2
        go_round
        case rel => exact ⟨k + 1, by omega, by go_num, fa_succ HP.out HE.out⟩
        case measure => simp [intOf]; omega
    · go_wp2
      go_ret
      exact ⟨ret_i (idxI_none (fun j hj => by rw [namesOf_len, HR.out.1] at hj; rw [namesOf_at (by rw [HR.out.1]; exact hj)]; exact HP.out j (by omega))).symm, rfl⟩

theorem rdyB_ways (done : List Str) (s : Step) : (hasB done s.name = true ∧ rdyB done s = false) ∨ (hasB done s.name = false ∧ haveB done s.after = rdyB done s) := by
  unfold rdyB
  cases hasB done s.name <;> simp

theorem str_some {x : Str} (h : 1 ≤ x.size) : x.toList.isEmpty = false := by
  rw [List.isEmpty_eq_false_iff]
  intro e
  have e2 : x.data.toList = [] := by simpa [ByteArray.toList_eq] using e
  have e3 : x.size = 0 := by show x.data.size = 0; rw [← Array.length_toList, e2]; rfl
  omega

def nextS (ss : List Step) (done : List Str) : Str := match rdyL ss done with
  | [] => ⟨#[]⟩
  | x :: _ => x
theorem nextS_nil {ss : List Step} {done : List Str} (h : rdyL ss done = []) : nextS ss done = ⟨#[]⟩ := by unfold nextS; rw [h]
theorem nextS_cons {ss : List Step} {done : List Str} {x : Str} {r : List Str} (h : rdyL ss done = x :: r) : nextS ss done = x := by unfold nextS; rw [h]

set_option maxRecDepth 100000 in
theorem l2Next_any (A B : Option Addr) (n c m d : Nat) (ss : List Step) (done : List Str) (lo lo' : Nat) (w : World) (hr : RStep w lo A n ss) (hok : okSteps ss) (hd : RStr w lo' B m done) (hm : m ≤ 1048576) :
    Calls Tryz.prog 111 #[.slice A n c, .slice B m d] w fun e w' => e = .returned (.string (nextS ss done)) ∧ w = w' := by
  have hn : n ≤ 1048576 := by have := hok.1; rw [hr.1] at this; exact this
  have HO := Lib.hid hok; clear hok
  have HR := Lib.hid hr; clear hr
  have HD := Lib.hid hd; clear hd
  go_enter Tryz.func111, Tryz.ntmps111
  go_wp2_with fail
  go_loop [5] (fun i => ∃ k : Nat, k ≤ n ∧ i = .int .i64 k ∧ ∀ j, j < k → rdyB done (nth ss j) = false) (fun i => n - (intOf i).toNat)
  case atStart => exact ⟨0, Nat.zero_le _, rfl, fa_zero⟩
  case round =>
    obtain ⟨k, hk, rfl, hp⟩ := hrel
    have HP := Lib.hid hp; clear hp
    by_cases hlt : k < n
    · obtain ⟨b, off, rfl, _, hc⟩ := RStep.at_ HR.out hlt
      obtain ⟨A', n', c', ⟨c1, c2, _⟩, ha, _⟩ := hc k hlt
      have HL := Lib.hid (show k < ss.length by rw [HR.out.1]; exact hlt)
      have hn' : n' ≤ 1048576 := by have := (HO.out.2 k HL.out).2.1; rw [ha.1] at this; exact this
      have HA := Lib.hid ha; clear ha
      clear hc
      rcases rdyB_ways done (nth ss k) with ⟨h1, h2⟩ | ⟨h1, h2⟩
      · have h3 := idx_pos h1
        have H2 := Lib.hid h2; clear h2
        go_wp2_with (go_at_call 110; refine (l1At_any _ _ _ done _ _ _ HD.out hm).mono ?_; rintro e w' ⟨rfl, rfl⟩)
        go_round
        case rel => exact ⟨k + 1, by omega, by go_num, fa_succ HP.out H2.out⟩
        case measure => simp [intOf]; omega
      · have h3 := idx_neg h1
        have H2 := Lib.hid h2; clear h2
        cases h4 : haveB done (nth ss k).after
        · have H5 := Lib.hid (H2.out.symm.trans h4)
          go_wp2_with (first | (go_at_call 110; refine (l1At_any _ _ _ done _ _ _ HD.out hm).mono ?_; rintro e w' ⟨rfl, rfl⟩) | (go_at_call 112; refine (l1Have_any _ _ _ _ _ _ done _ _ _ _ HD.out hm HA.out hn').mono ?_; rintro e w' ⟨rfl, rfl⟩))
          go_round
          case rel => exact ⟨k + 1, by omega, by go_num, fa_succ HP.out H5.out⟩
          case measure => simp [intOf]; omega
        · have H5 := Lib.hid (rdyL_first HP.out HL.out (H2.out.symm.trans h4))
          go_wp2_with (first | (go_at_call 110; refine (l1At_any _ _ _ done _ _ _ HD.out hm).mono ?_; rintro e w' ⟨rfl, rfl⟩) | (go_at_call 112; refine (l1Have_any _ _ _ _ _ _ done _ _ _ _ HD.out hm HA.out hn').mono ?_; rintro e w' ⟨rfl, rfl⟩))
          go_ret
          obtain ⟨r, hr⟩ := H5.out
          exact ⟨ret_s (nextS_cons hr).symm, rfl⟩
    · go_wp2_with fail
      go_ret
      exact ⟨ret_s (nextS_nil (rdyL_none (fun j hj => HP.out j (by rw [HR.out.1] at hj; omega)))).symm, rfl⟩

set_option maxRecDepth 100000 in
theorem l2Order_any (A : Option Addr) (n c : Nat) (ss : List Step) (lo : Nat) (w : World) (hr : RStep w lo A n ss) (hok : okSteps ss) (hne : ∀ j, j < n → 1 ≤ (nth ss j).name.size) :
    Calls Tryz.prog 73 #[.slice A n c] w fun e w' => ∃ A' c', e = .returned (.slice A' (ordL ss).length c') ∧ RStr w' w.heap.size A' (ordL ss).length (ordL ss) ∧ Below w.heap.size w w' := by
  have hn : n ≤ 1048576 := by have := hok.1; rw [hr.1] at this; exact this
  have HO := Lib.hid hok; clear hok
  have HR := Lib.hid hr; clear hr
  have HNE := Lib.hid hne; clear hne
  go_enter Tryz.func73, Tryz.ntmps73
  go_wp2_with fail
  go_loopw [3, 4] (fun v i wr => ∃ k m : Nat, k ≤ n ∧ i = .int .i64 k ∧ m = (ordTo ss k).length ∧ Own 9 1 w wr v m ((ordTo ss k).map Value.string)) (fun _ i _ => n - (intOf i).toNat)
  case atStart => exact ⟨0, 0, Nat.zero_le _, rfl, rfl, ⟨World.ownsRow_made _ _ _ (Nat.le_refl _) (by unfold maxLen; omega) rfl, (Below.refl _ _).alloc (Nat.le_refl _) _⟩⟩
  case round =>
    obtain ⟨k, m, hk, rfl, hmk, how⟩ := hrel
    have HM := Lib.hid hmk; clear hmk
    have HW := Lib.hid how; clear how
    obtain ⟨A1, c1, rfl, hrs⟩ := own_str HW.out.row
    have HRS := Lib.hid hrs; clear hrs
    by_cases hlt : k < n
    · have hm1 : m ≤ k := by rw [HM.out]; exact ordTo_len ss k
      have hm2 : m ≤ 1048576 := by omega
      go_wp2_with fail
      refine (l2Next_any _ _ _ _ _ _ ss (ordTo ss k) _ _ _ (HR.out.below HW.out.below) HO.out HRS.out hm2).mono ?_
      rintro e w' ⟨rfl, rfl⟩
      cases hrd : rdyL ss (ordTo ss k) with
      | nil =>
        have HE := Lib.hid (nextS_nil hrd)
        have HT := Lib.hid (show ordTo ss (k + 1) = ordTo ss k from ordStep_nil hrd)
        clear hrd
        rw [HE.out]
        go_wp2_with fail
        go_roundw
        case rel => exact ⟨k + 1, m, by omega, by go_num, by rw [HT.out]; exact HM.out, by rw [HT.out]; exact HW.out⟩
        case measure => simp [intOf]; omega
      | cons x r =>
        have HE := Lib.hid (nextS_cons hrd)
        have HT := Lib.hid (show ordTo ss (k + 1) = ordTo ss k ++ [x] from ordStep_cons hrd)
        have hx : x.toList.isEmpty = false := by
          obtain ⟨s, hs, _, rfl⟩ := rdyL_mem.1 (show x ∈ rdyL ss (ordTo ss k) by rw [hrd]; simp)
          obtain ⟨j, hj, rfl⟩ := nth_of_mem hs
          have := HNE.out j (by rw [← HR.out.1]; exact hj)
          exact str_some this
        clear hrd
        rw [HE.out]
        go_wp2_with (at_builtin; refine app_str w _ m (ordTo ss k) _ x ?c0 rfl (.tmp 18) (.tmp 20) rfl rfl rfl ?c1 (by omega) ?_)
        case c0 => exact HW.out.alloc _
        case c1 => exact heap_new rfl
        intro v' w' how' hg'
        go_wp2_with fail
        go_roundw
        case rel => exact ⟨k + 1, m + 1, by omega, by go_num, by rw [HT.out, List.length_append, ← HM.out]; rfl, by rw [HT.out, List.map_append]; exact how'⟩
        case measure => simp [intOf]; omega
    · have hk2 : k = ss.length := by have := HR.out.1; omega
      go_wp2_with fail
      go_ret
      have e : ordTo ss k = ordL ss := by rw [hk2]; rfl
      have hl : m = (ordL ss).length := by rw [← e]; exact HM.out
      subst hl
      exact ⟨_, _, rfl, by have := HRS.out; rw [e] at this; exact this, HW.out.below⟩
end Go.Proofs.YthdfefgianokgaaGreatDoor

/- Flows: names, ready, order. -/
namespace Go.Proofs.YthdfefgianokgaaGreatDoor
open Go.RowKit

set_option maxRecDepth 100000 in
theorem names_any (A : Option Addr) (n c : Nat) (ver : Int) (ss : List Step) (lo : Nat) (w : World) (hr : RStep w lo A n ss) (hn : n ≤ 1048576) :
    Calls Tryz.prog 103 #[.agg #[.int .i64 ver, .slice A n c]] w fun e w' => ∃ A' c', e = .returned (.slice A' n c') ∧ RStr w' w.heap.size A' n (namesOf ss) ∧ Below w.heap.size w w' := by
  have HR := Lib.hid hr; clear hr
  go_enter Tryz.func103, Tryz.ntmps103
  go_wp2_with fail
  go_loopw [3, 9] (fun v i wr => ∃ k : Nat, k ≤ n ∧ i = .int .i64 k ∧ Own 9 1 w wr v k (((namesOf ss).take k).map Value.string)) (fun _ i _ => n - (intOf i).toNat)
  case atStart => exact ⟨0, Nat.zero_le _, rfl, ⟨World.ownsRow_nil _ _ _ _, (Below.refl _ _).alloc (Nat.le_refl _) _⟩⟩
  case round =>
    obtain ⟨k, hk, rfl, how⟩ := hrel
    have HW := Lib.hid how; clear how
    by_cases hlt : k < n
    · obtain ⟨b, off, rfl, ⟨_, hbr⟩, hc⟩ := RStep.at_ (HR.out.below HW.out.below) hlt
      obtain ⟨A', n', c', ⟨c1, c2, c3⟩, _⟩ := hc k hlt
      clear hc
      have HL := Lib.hid (show k < ss.length by rw [HR.out.1]; exact hlt)
      have HT := Lib.hid (show (namesOf ss).take (k + 1) = (namesOf ss).take k ++ [(nth ss k).name] by rw [take_nth (by rw [namesOf_len]; exact HL.out), namesOf_at HL.out])
      go_wp2_with (at_builtin; refine app_str w _ k ((namesOf ss).take k) _ (nth ss k).name ?c0 rfl (.tmp 13) (.tmp 16) rfl rfl rfl ?c1 (by omega) ?_)
      case c0 => exact (HW.out.alloc _).alloc _
      case c1 => exact heap_new (by simp)
      intro v' w' how' hg'
      go_wp2_with fail
      go_roundw
      case rel => exact ⟨k + 1, by omega, by go_num, by rw [HT.out, List.map_append, List.map_take]; exact how'⟩
      case measure => simp [intOf]; omega
    · go_wp2_with fail
      go_ret
      obtain ⟨A', c', rfl, hrs⟩ := own_str HW.out.row
      have hk2 : k = n := by omega
      subst hk2
      rw [List.take_of_length_le (by rw [namesOf_len, HR.out.1]; omega)] at hrs
      exact ⟨_, _, rfl, hrs, HW.out.below⟩

set_option maxRecDepth 100000 in
theorem ready_any (A B : Option Addr) (n c m d : Nat) (ver : Int) (ss : List Step) (done : List Str) (lo lo' : Nat) (w : World) (hr : RStep w lo A n ss) (hok : okSteps ss) (hd : RStr w lo' B m done) (hm : m ≤ 1048576) :
    Calls Tryz.prog 64 #[.agg #[.int .i64 ver, .slice A n c], .slice B m d] w fun e w' => ∃ A' n' c', e = .returned (.slice A' n' c') ∧ RStr w' w.heap.size A' n' (rdyL ss done) ∧ Below w.heap.size w w' := by
  have hn : n ≤ 1048576 := by have := hok.1; rw [hr.1] at this; exact this
  have HO := Lib.hid hok; clear hok
  have HR := Lib.hid hr; clear hr
  have HD := Lib.hid hd; clear hd
  go_enter Tryz.func64, Tryz.ntmps64
  go_wp2_with fail
  go_loopw [5, 11] (fun v i wr => ∃ k q : Nat, k ≤ n ∧ i = .int .i64 k ∧ q ≤ k ∧ Own 9 1 w wr v q ((rdyTo ss done k).map Value.string)) (fun _ i _ => n - (intOf i).toNat)
  case atStart => exact ⟨0, 0, Nat.zero_le _, rfl, Nat.le_refl _, ⟨World.ownsRow_nil _ _ _ _, (Below.refl _ _).alloc (Nat.le_refl _) _⟩⟩
  case round =>
    obtain ⟨k, q, hk, rfl, hq, how⟩ := hrel
    have HW := Lib.hid how; clear how
    by_cases hlt : k < n
    · obtain ⟨b, off, rfl, ⟨_, hbr⟩, hc⟩ := RStep.at_ (HR.out.below HW.out.below) hlt
      obtain ⟨A', n', c', ⟨c1, c2, c3⟩, ha, _⟩ := hc k hlt
      clear hc
      have HL := Lib.hid (show k < ss.length by rw [HR.out.1]; exact hlt)
      have hn' : n' ≤ 1048576 := by have := (HO.out.2 k HL.out).2.1; rw [ha.1] at this; exact this
      have HA := Lib.hid (ha.alloc (.cells #[.string (nth ss k).name, .slice A' n' c', .bool (nth ss k).undo] 35)); clear ha
      have HDW := Lib.hid ((HD.out.below HW.out.below).alloc (.cells #[.string (nth ss k).name, .slice A' n' c', .bool (nth ss k).undo] 35))
      rcases rdyB_ways done (nth ss k) with ⟨h1, h2⟩ | ⟨h1, h2⟩
      · have HT := Lib.hid (rdyTo_no HL.out h2); clear h2
        go_wp2_with (go_at_call 67; refine (contains_any _ _ _ done _ _ _ HDW.out hm).mono ?_; rintro e w' ⟨rfl, rfl⟩)
        go_roundw
        case rel => exact ⟨k + 1, q, by omega, by go_num, by omega, by rw [HT.out]; exact HW.out.alloc _⟩
        case measure => simp [intOf]; omega
      · have H2 := Lib.hid h2; clear h2
        cases h4 : haveB done (nth ss k).after
        · have HT := Lib.hid (rdyTo_no HL.out (H2.out.symm.trans h4))
          go_wp2_with (first | (go_at_call 67; refine (contains_any _ _ _ done _ _ _ HDW.out hm).mono ?_; rintro e w' ⟨rfl, rfl⟩) | (go_at_call 104; refine (namesHave_any _ _ _ _ _ _ done _ _ _ _ HDW.out hm HA.out hn').mono ?_; rintro e w' ⟨rfl, rfl⟩))
          go_roundw
          case rel => exact ⟨k + 1, q, by omega, by go_num, by omega, by rw [HT.out]; exact HW.out.alloc _⟩
          case measure => simp [intOf]; omega
        · have HT := Lib.hid (rdyTo_yes HL.out (H2.out.symm.trans h4))
          go_wp2_with (first | (go_at_call 67; refine (contains_any _ _ _ done _ _ _ HDW.out hm).mono ?_; rintro e w' ⟨rfl, rfl⟩) | (go_at_call 104; refine (namesHave_any _ _ _ _ _ _ done _ _ _ _ HDW.out hm HA.out hn').mono ?_; rintro e w' ⟨rfl, rfl⟩) | (at_builtin; refine app_str w _ q (rdyTo ss done k) _ (nth ss k).name ?c0 rfl (.tmp 26) (.tmp 29) rfl rfl rfl ?c1 (by omega) ?_))
          case c0 => exact (HW.out.alloc _).alloc _
          case c1 => exact heap_new (by simp)
          intro v' w' how' hg'
          go_wp2_with fail
          go_roundw
          case rel => exact ⟨k + 1, q + 1, by omega, by go_num, by omega, by rw [HT.out, List.map_append]; exact how'⟩
          case measure => simp [intOf]; omega
    · go_wp2_with fail
      go_ret
      obtain ⟨A', c', rfl, hrs⟩ := own_str HW.out.row
      rw [rdyTo_all (by rw [HR.out.1]; omega)] at hrs
      exact ⟨_, _, _, rfl, hrs, HW.out.below⟩

def lenV : Value → Nat
  | .slice _ q _ => q
  | _ => 0

set_option maxRecDepth 100000 in
theorem order_any (A : Option Addr) (n c : Nat) (ver : Int) (ss : List Step) (lo : Nat) (w : World) (hr : RStep w lo A n ss) (hok : okSteps ss) :
    Calls Tryz.prog 105 #[.agg #[.int .i64 ver, .slice A n c]] w fun e w' => ∃ A' c', e = .returned (.slice A' (ordL ss).length c') ∧ RStr w' w.heap.size A' (ordL ss).length (ordL ss) ∧ Below w.heap.size w w' := by
  have hn : n ≤ 1048576 := by have := hok.1; rw [hr.1] at this; exact this
  have HO := Lib.hid hok; clear hok
  have HR := Lib.hid hr; clear hr
  go_enter Tryz.func105, Tryz.ntmps105
  go_wp2_with fail
  go_loopw [3] (fun v wr => ∃ k : Nat, (ordTo ss k).length = k ∧ Own 9 1 w wr v k ((ordTo ss k).map Value.string) ∧ wr.heap[w.heap.size]? = some (.cells #[.int .i64 ver, .slice A n c] 38 (0, 0))) (fun v _ => n - lenV v)
  case atStart => exact ⟨0, rfl, ⟨World.ownsRow_nil _ _ _ _, (Below.refl _ _).alloc (Nat.le_refl _) _⟩, heap_new rfl⟩
  case round =>
    obtain ⟨k, hl, how, hbx⟩ := hrel
    have HL := Lib.hid hl; clear hl
    have HW := Lib.hid how; clear how
    have HBX := Lib.hid hbx; clear hbx
    obtain ⟨A1, c1, rfl, hrs⟩ := own_str HW.out.row
    have HRS := Lib.hid hrs; clear hrs
    have hkn : k ≤ n := by have := ordTo_len2 ss k; rw [HL.out, HR.out.1] at this; exact this
    have b1 := (blk_cl (k := 0) HBX.out rfl).1
    have b2 := (blk_cl (k := 1) HBX.out rfl).1
    go_wp2_with fail
    refine (ready_any _ _ _ _ _ _ _ ss (ordTo ss k) _ _ _ (HR.out.below HW.out.below) HO.out HRS.out (by omega)).mono ?_
    rintro e w2 ⟨A2, n2, c2, rfl, hr2, hb2⟩
    have HR2 := Lib.hid hr2; clear hr2
    have HB2 := Lib.hid hb2; clear hb2
    cases hrd : rdyL ss (ordTo ss k) with
    | nil =>
      have hn2 : n2 = 0 := by rw [← HR2.out.1, hrd]; rfl
      subst hn2
      have HE := Lib.hid (ordTo_end HL.out hrd)
      clear hrd b1 b2
      go_wp2_with fail
      go_ret
      have hk2 : k = (ordL ss).length := by rw [← HE.out]; exact HL.out.symm
      have HS := HRS.out.below HB2.out
      rw [HE.out] at HS
      subst hk2
      exact ⟨_, _, rfl, HS, HW.out.below.trans (HB2.out.mono HW.out.below.size)⟩
    | cons x r =>
      have hn2 : 0 < n2 := by rw [← HR2.out.1, hrd]; simp
      have hn3 : ((n2 : Int) == 0) = false := by rw [beq_eq_false_iff_ne]; omega
      have HT := Lib.hid (show ordTo ss (k + 1) = ordTo ss k ++ [x] from ordStep_cons hrd)
      have HX := Lib.hid (show nth (rdyL ss (ordTo ss k)) 0 = x by rw [hrd]; rfl)
      clear hrd b1 b2
      have HL1 := Lib.hid (show (ordTo ss (k + 1)).length = k + 1 by rw [HT.out, List.length_append, HL.out]; rfl)
      have hk1 : k + 1 ≤ n := by have := ordTo_len2 ss (k + 1); rw [HL1.out, HR.out.1] at this; exact this
      obtain ⟨b3, o3, rfl, ⟨hb3, hb4⟩, hc3⟩ := RStr.at_ HR2.out hn2
      have e1 := (hc3 0 hn2).1
      rw [Nat.add_zero, HX.out] at e1
      clear hc3
      go_wp2_with (at_builtin; refine app_str w _ k (ordTo ss k) _ x ?c0 rfl (.tmp 12) (.tmp 16) rfl rfl rfl ?c1 (by omega) ?_)
      case c0 => exact (HW.out.below_ HB2.out).alloc _
      case c1 => exact heap_new rfl
      intro v' w' how' hg'
      obtain ⟨A4, c4, hv4, _⟩ := own_form how'.row
      subst hv4
      have HO4 := Lib.hid how'; clear how'
      have HG4 := Lib.hid hg'; clear hg'
      go_wp2_with fail
      go_roundw
      case rel =>
        refine ⟨k + 1, HL1.out, by rw [HT.out, List.map_append]; exact HO4.out, ?_⟩
        refine grown_blk HG4.out (heap_old ((HB2.out.block _ (heap_lt HBX.out)).trans HBX.out)) ?_
        intro e
        have := (HW.out.row.lt _ e).1
        exact row_ne HW.out.row HBX.out (by decide) e
      case measure => simp [lenV]; omega
end Go.Proofs.YthdfefgianokgaaGreatDoor

/- Flows that are valid. -/
namespace Go.Proofs.YthdfefgianokgaaGreatDoor
open Go.RowKit

/-- The program's way to ask whether a flow is valid. -/
theorem flowB_iff2 {f : Flow} : flowB f = true ↔ (1 ≤ f.ver ∧ f.ver ≤ 99) ∧ (1 ≤ f.steps.length ∧ f.steps.length ≤ 8) ∧ ascB (namesOf f.steps) = true ∧
    (∀ j, j < f.steps.length → (stepB (nth f.steps j) && haveB (namesOf f.steps) (nth f.steps j).after) = true) ∧ (ordL f.steps).length = f.steps.length := by
  rw [flowB_iff]
  constructor
  · rintro ⟨h1, h2, h3, h4⟩
    refine ⟨h2, h3, ?_, ?_, h4⟩
    · refine allN_iff.2 ?_
      intro j hj
      rw [namesOf_len] at hj
      have := h1 j hj
      simp only [stepAt, stepB, Bool.and_eq_true] at this
      unfold ascAt
      rw [namesOf_at hj, this.1.1.1.1.2]
      by_cases h0 : j = 0
      · simp [h0]
      · rw [namesOf_at (by omega)]; rw [this.1.2]; rfl
    · intro j hj
      have := h1 j hj
      simp only [stepAt, Bool.and_eq_true] at this ⊢
      exact ⟨this.1.1, this.2⟩
  · rintro ⟨h2, h3, h5, h1, h4⟩
    refine ⟨?_, h2, h3, h4⟩
    intro j hj
    have e1 := h1 j hj
    have e2 := allN_iff.1 h5 j (by rw [namesOf_len]; exact hj)
    unfold ascAt at e2
    rw [namesOf_at hj] at e2
    simp only [Bool.and_eq_true] at e1 e2
    unfold stepAt
    simp only [Bool.and_eq_true]
    refine ⟨⟨e1.1, ?_⟩, e1.2⟩
    by_cases h0 : j = 0
    · simp [h0]
    · rw [namesOf_at (by omega)] at e2; exact e2.2

theorem flowB_no {f : Flow} (h : ¬ ((1 ≤ f.ver ∧ f.ver ≤ 99) ∧ (1 ≤ f.steps.length ∧ f.steps.length ≤ 8) ∧ ascB (namesOf f.steps) = true ∧
    (∀ j, j < f.steps.length → (stepB (nth f.steps j) && haveB (namesOf f.steps) (nth f.steps j).after) = true) ∧ (ordL f.steps).length = f.steps.length)) : flowB f = false := by
  cases e : flowB f
  · rfl
  · exact absurd (flowB_iff2.1 e) h

theorem flow_waysI (f : Flow) : (f.ver < 1 ∨ (1 ≤ f.ver ∧ (99 < f.ver ∨ (f.ver ≤ 99 ∧ (f.steps.length < 1 ∨ (1 ≤ f.steps.length ∧ (8 < f.steps.length ∨ (f.steps.length ≤ 8 ∧ (ascB (namesOf f.steps) = false ∨ ascB (namesOf f.steps) = true))))))))) := by
  by_cases h1 : f.ver < 1
  · exact .inl h1
  refine .inr ⟨by omega, ?_⟩
  by_cases h2 : 99 < f.ver
  · exact .inl h2
  refine .inr ⟨by omega, ?_⟩
  by_cases h3 : f.steps.length < 1
  · exact .inl h3
  refine .inr ⟨by omega, ?_⟩
  by_cases h4 : 8 < f.steps.length
  · exact .inl h4
  refine .inr ⟨by omega, ?_⟩
  cases ascB (namesOf f.steps)
  · exact .inl rfl
  · exact .inr rfl

set_option maxRecDepth 100000 in
set_option maxHeartbeats 1000000 in
theorem flowI_any (A : Option Addr) (n c : Nat) (f : Flow) (lo : Nat) (w : World) (hr : RStep w lo A n f.steps) (hok : okSteps f.steps) :
    Calls Tryz.prog 62 #[.agg #[.int .i64 f.ver, .slice A n c]] w fun e w' => e = .returned (.bool (flowB f)) ∧ Below w.heap.size w w' := by
  have hn : n ≤ 1048576 := by have := hok.1; rw [hr.1] at this; exact this
  have HO := Lib.hid hok; clear hok
  have HR := Lib.hid hr; clear hr
  have HL := Lib.hid (show f.steps.length = n from HR.out.1)
  have HS := Lib.hid (flow_waysI f)
  rw [HL.out] at HS
  have HB := Lib.hid (fun o => (Below.refl w.heap.size w).alloc (Nat.le_refl _) o)
  rcases HS.out with h1 | ⟨h1, h2 | ⟨h2, h3 | ⟨h3, h4 | ⟨h4, h5 | h5⟩⟩⟩⟩
  · have HG := Lib.hid (flowB_no (f := f) (by rintro ⟨a, _⟩; omega))
    go_enter Tryz.func62, Tryz.ntmps62
    go_wp2_with fail
    go_ret
    exact ⟨ret_b (by rw [HG.out]), HB.out _⟩
  · have HG := Lib.hid (flowB_no (f := f) (by rintro ⟨a, _⟩; omega))
    go_enter Tryz.func62, Tryz.ntmps62
    go_wp2_with fail
    go_ret
    exact ⟨ret_b (by rw [HG.out]), HB.out _⟩
  · have HG := Lib.hid (flowB_no (f := f) (by rintro ⟨_, a, _⟩; have := HL.out; omega))
    go_enter Tryz.func62, Tryz.ntmps62
    go_wp2_with fail
    go_ret
    exact ⟨ret_b (by rw [HG.out]), HB.out _⟩
  · have HG := Lib.hid (flowB_no (f := f) (by rintro ⟨_, a, _⟩; have := HL.out; omega))
    go_enter Tryz.func62, Tryz.ntmps62
    go_wp2_with fail
    go_ret
    exact ⟨ret_b (by rw [HG.out]), HB.out _⟩
  · have HG := Lib.hid (flowB_no (f := f) (by rintro ⟨_, _, a, _⟩; rw [h5] at a; cases a))
    have H5 := Lib.hid h5; clear h5
    have h8 : n ≤ 8 := h4
    go_enter Tryz.func62, Tryz.ntmps62
    go_wp2_with fail
    refine (names_any _ _ _ _ f.steps _ _ (HR.out.alloc _) hn).mono ?_
    rintro e w1 ⟨A1, c1, rfl, hr1, hb1⟩
    have HR1 := Lib.hid hr1; clear hr1
    have HB1 := Lib.hid hb1; clear hb1
    go_wp2_with fail
    refine (namesAscend_any _ _ _ _ _ _ HR1.out (namesOf_ok HO.out)).mono ?_
    rintro e w2 ⟨rfl, rfl⟩
    rw [H5.out]
    go_wp2_with fail
    go_ret
    exact ⟨ret_b (by rw [HG.out]), (HB.out _).trans (HB1.out.mono (by simp))⟩
  · have H5 := Lib.hid h5; clear h5
    have h8 : n ≤ 8 := h4
    have H1 := Lib.hid (show (1 ≤ f.ver ∧ f.ver ≤ 99) ∧ (1 ≤ f.steps.length ∧ f.steps.length ≤ 8) from ⟨⟨h1, h2⟩, by rw [HL.out]; exact ⟨h3, h4⟩⟩)
    go_enter Tryz.func62, Tryz.ntmps62
    go_wp2_with fail
    refine (names_any _ _ _ _ f.steps _ _ (HR.out.alloc _) hn).mono ?_
    rintro e w1 ⟨A1, c1, rfl, hr1, hb1⟩
    have HR1 := Lib.hid hr1; clear hr1
    have HB1 := Lib.hid ((HB.out (.cells #[.int .i64 f.ver, .slice A n c] 38)).trans (hb1.mono (by simp)))
    have HX1 := Lib.hid (show w1.heap[w.heap.size]? = some (.cells #[.int .i64 f.ver, .slice A n c] 38 (0, 0)) from (hb1.block _ (by simp)).trans (heap_new rfl))
    clear hb1
    go_wp2_with fail
    refine (namesAscend_any _ _ _ _ _ _ HR1.out (namesOf_ok HO.out)).mono ?_
    rintro e w2 ⟨rfl, rfl⟩
    rw [H5.out]
    have b1 := (blk_cl (k := 0) HX1.out rfl).1
    have b2 := (blk_cl (k := 1) HX1.out rfl).1
    go_wp2_with fail
    clear b1 b2
    go_loopw [34] (fun i wr => ∃ k : Nat, k ≤ n ∧ i = .int .i64 k ∧ wr.heap[w.heap.size]? = some (.cells #[.int .i64 f.ver, .slice A n c] 38 (0, 0)) ∧ Below w.heap.size w wr ∧ ∀ j, j < k → (stepB (nth f.steps j) && haveB (namesOf f.steps) (nth f.steps j).after) = true) (fun i _ => n - (intOf i).toNat)
    case atStart => exact ⟨0, Nat.zero_le _, rfl, HX1.out, HB1.out, fa_zero⟩
    case round =>
      obtain ⟨k, hk, rfl, hx, hb, hp⟩ := hrel
      have HX := Lib.hid hx; clear hx
      have HBR := Lib.hid hb; clear hb
      have HP := Lib.hid hp; clear hp
      have b1 := (blk_cl (k := 0) HX.out rfl).1
      have b2 := (blk_cl (k := 1) HX.out rfl).1
      by_cases hlt : k < n
      · obtain ⟨b, off, rfl, ⟨_, hbr⟩, hc⟩ := RStep.at_ (HR.out.below HBR.out) hlt
        obtain ⟨A', n', c', ⟨c1, c2, c3⟩, ha, _⟩ := hc k hlt
        clear hc
        have HL1 := Lib.hid (show k < f.steps.length by rw [HL.out]; exact hlt)
        have hso := HO.out.2 k HL1.out
        have hn' : n' ≤ 1048576 := by have := hso.2.1; rw [ha.1] at this; exact this
        have HSO := Lib.hid hso; clear hso
        have HA := Lib.hid (ha.alloc (.cells #[.string (nth f.steps k).name, .slice A' n' c', .bool (nth f.steps k).undo] 35)); clear ha
        have HRK := Lib.hid ((HR.out.below HBR.out).alloc (.cells #[.string (nth f.steps k).name, .slice A' n' c', .bool (nth f.steps k).undo] 35))
        have HBW := Lib.hid (HBR.out.alloc HBR.out.size (.cells #[.string (nth f.steps k).name, .slice A' n' c', .bool (nth f.steps k).undo] 35))
        have HXK := Lib.hid (show (wr.alloc (.cells #[.string (nth f.steps k).name, .slice A' n' c', .bool (nth f.steps k).undo] 35)).heap[w.heap.size]? = some (.cells #[.int .i64 f.ver, .slice (some ⟨b, off, none⟩) n c] 38 (0, 0)) from heap_old HX.out)
        have HYK := Lib.hid (show (wr.alloc (.cells #[.string (nth f.steps k).name, .slice A' n' c', .bool (nth f.steps k).undo] 35)).heap[wr.heap.size]? = some (.cells #[.string (nth f.steps k).name, .slice A' n' c', .bool (nth f.steps k).undo] 35 (0, 0)) from heap_new rfl)
        have hwx : w.heap.size < (wr.alloc (.cells #[.string (nth f.steps k).name, .slice A' n' c', .bool (nth f.steps k).undo] 35)).heap.size := heap_lt HXK.out
        have hwy : wr.heap.size < (wr.alloc (.cells #[.string (nth f.steps k).name, .slice A' n' c', .bool (nth f.steps k).undo] 35)).heap.size := heap_lt HYK.out
        have HSB : Hid (∀ w', Below (wr.alloc (.cells #[.string (nth f.steps k).name, .slice A' n' c', .bool (nth f.steps k).undo] 35)).heap.size (wr.alloc (.cells #[.string (nth f.steps k).name, .slice A' n' c', .bool (nth f.steps k).undo] 35)) w' →
            ((w'.cell? ⟨w.heap.size, 0, none⟩ = some (.int .i64 f.ver) ∧ w'.cell? ⟨w.heap.size, 1, none⟩ = some (.slice (some ⟨b, off, none⟩) n c)) ∧
            (w'.cell? ⟨wr.heap.size, 0, none⟩ = some (.string (nth f.steps k).name) ∧ w'.cell? ⟨wr.heap.size, 1, none⟩ = some (.slice A' n' c') ∧ w'.cell? ⟨wr.heap.size, 2, none⟩ = some (.bool (nth f.steps k).undo))) ∧
            Below (wr.alloc (.cells #[.string (nth f.steps k).name, .slice A' n' c', .bool (nth f.steps k).undo] 35)).heap.size (wr.alloc (.cells #[.string (nth f.steps k).name, .slice A' n' c', .bool (nth f.steps k).undo] 35)) w') := by
          intro w' hb
          have e1 := (hb.block _ hwx).trans HXK.out
          have e2 := (hb.block _ hwy).trans HYK.out
          exact ⟨⟨⟨(blk_cl (k := 0) e1 rfl).1, (blk_cl (k := 1) e1 rfl).1⟩, (blk_cl (k := 0) e2 rfl).1, (blk_cl (k := 1) e2 rfl).1, (blk_cl (k := 2) e2 rfl).1⟩, hb⟩
        cases h6 : stepB (nth f.steps k)
        · have HG := Lib.hid (flowB_no (f := f) (by rintro ⟨_, _, _, a, _⟩; have := a k HL1.out; rw [h6] at this; cases this))
          go_wp2_with fail
          clear c1 c2 c3 b1 b2
          generalize ewk : wr.alloc (.cells #[.string (nth f.steps k).name, .slice A' n' c', .bool (nth f.steps k).undo] 35) = wk at *
          have HSV : Hid (∀ w', Below wk.heap.size wk w' → Calls Tryz.prog 93 #[.agg #[.string (nth f.steps k).name, .slice A' n' c', .bool (nth f.steps k).undo]] w' fun e w'' => e = .returned (.bool false) ∧ Below w'.heap.size w' w'') := by
            intro w' hb
            have := stepI_any _ _ c' (nth f.steps k) _ _ (HA.out.below hb) HSO.out
            rw [h6] at this; exact this
          clear h6
          obtain ⟨⟨⟨x1, x2⟩, y1, y2, y3⟩, _⟩ := HSB.out wk (Below.refl _ _)
          (first | (go_region_with (go_at_call 93; refine (HSV.out _ (by first | exact (Below.refl _ _).drew | exact Below.refl _ _ | (go_split_ands; assumption))).mono ?_; rintro e w1 ⟨rfl, hbw⟩))
                 | fail "held")
          all_goals go_wp2_with fail
          all_goals go_ret
          all_goals exact ⟨ret_b (by rw [HG.out]), HBW.out.trans ((show Below wk.heap.size wk w1 from (Below.refl _ _).drew.trans (hbw.mono (Nat.le_refl _))).mono HBW.out.size)⟩
        · cases h7 : haveB (namesOf f.steps) (nth f.steps k).after
          · have HG := Lib.hid (flowB_no (f := f) (by rintro ⟨_, _, _, a, _⟩; have := a k HL1.out; rw [h6, h7] at this; cases this))
            go_wp2_with fail
            clear c1 c2 c3 b1 b2
            generalize ewk : wr.alloc (.cells #[.string (nth f.steps k).name, .slice A' n' c', .bool (nth f.steps k).undo] 35) = wk at *
            have HSV : Hid (∀ w', Below wk.heap.size wk w' → Calls Tryz.prog 93 #[.agg #[.string (nth f.steps k).name, .slice A' n' c', .bool (nth f.steps k).undo]] w' fun e w'' => e = .returned (.bool true) ∧ Below w'.heap.size w' w'') := by
              intro w' hb
              have := stepI_any _ _ c' (nth f.steps k) _ _ (HA.out.below hb) HSO.out
              rw [h6] at this; exact this
            clear h6
            have HHV : Hid (∀ w', Below wk.heap.size wk w' → ∀ A2 c2 lo2, RStr w' lo2 A2 n (namesOf f.steps) → Calls Tryz.prog 104 #[.slice A2 n c2, .slice A' n' c'] w' fun e w'' => e = .returned (.bool false) ∧ w' = w'') := by
              intro w' hb A2 c2 lo2 h2
              have := namesHave_any _ _ _ c2 _ c' _ _ _ _ _ h2 (by omega) (HA.out.below hb) hn'
              rw [h7] at this; exact this
            clear h7
            go_region_held3 (fun w' => ((w'.cell? ⟨w.heap.size, 0, none⟩ = some (.int .i64 f.ver) ∧ w'.cell? ⟨w.heap.size, 1, none⟩ = some (.slice (some ⟨b, off, none⟩) n c)) ∧
            (w'.cell? ⟨wr.heap.size, 0, none⟩ = some (.string (nth f.steps k).name) ∧ w'.cell? ⟨wr.heap.size, 1, none⟩ = some (.slice A' n' c') ∧ w'.cell? ⟨wr.heap.size, 2, none⟩ = some (.bool (nth f.steps k).undo))) ∧
            Below wk.heap.size wk w')
              (first | exact HSB.out _ (Below.refl _ _).drew | exact HSB.out _ ((Below.refl _ _).drew.trans (hbw.mono (Nat.le_refl _))) | (go_split_ands; exact HSB.out _ ((show Below wk.heap.size wk _ by assumption).trans (hbw.mono (show Below wk.heap.size wk _ by assumption).size))) | go_keep)
              (first | (go_at_call 93; refine (HSV.out _ (by first | exact (Below.refl _ _).drew | (go_split_ands; assumption))).mono ?_; rintro e w1 ⟨rfl, hbw⟩) | (go_at_call 103; refine (names_any _ _ _ _ f.steps _ _ (HRK.out.below (by first | exact (Below.refl _ _).drew | (go_split_ands; assumption))) hn).mono ?_; rintro e w1 ⟨A2, c2, rfl, hr2, hbw⟩) | (go_at_call 104; refine (HHV.out _ (by first | exact (Below.refl _ _).drew | (go_split_ands; assumption)) _ _ _ (by assumption)).mono ?_; rintro e w1 ⟨rfl, rfl⟩))
            go_wp2_with fail
            go_ret
            exact ⟨ret_b (by rw [HG.out]), HBW.out.trans ((show Below wk.heap.size wk _ by (go_split_ands; assumption)).mono HBW.out.size)⟩
          · have HG := Lib.hid (show (stepB (nth f.steps k) && haveB (namesOf f.steps) (nth f.steps k).after) = true by rw [h6, h7]; rfl)
            go_wp2_with fail
            clear c1 c2 c3 b1 b2
            generalize ewk : wr.alloc (.cells #[.string (nth f.steps k).name, .slice A' n' c', .bool (nth f.steps k).undo] 35) = wk at *
            have HSV : Hid (∀ w', Below wk.heap.size wk w' → Calls Tryz.prog 93 #[.agg #[.string (nth f.steps k).name, .slice A' n' c', .bool (nth f.steps k).undo]] w' fun e w'' => e = .returned (.bool true) ∧ Below w'.heap.size w' w'') := by
              intro w' hb
              have := stepI_any _ _ c' (nth f.steps k) _ _ (HA.out.below hb) HSO.out
              rw [h6] at this; exact this
            clear h6
            have HHV : Hid (∀ w', Below wk.heap.size wk w' → ∀ A2 c2 lo2, RStr w' lo2 A2 n (namesOf f.steps) → Calls Tryz.prog 104 #[.slice A2 n c2, .slice A' n' c'] w' fun e w'' => e = .returned (.bool true) ∧ w' = w'') := by
              intro w' hb A2 c2 lo2 h2
              have := namesHave_any _ _ _ c2 _ c' _ _ _ _ _ h2 (by omega) (HA.out.below hb) hn'
              rw [h7] at this; exact this
            clear h7
            go_region_held3 (fun w' => ((w'.cell? ⟨w.heap.size, 0, none⟩ = some (.int .i64 f.ver) ∧ w'.cell? ⟨w.heap.size, 1, none⟩ = some (.slice (some ⟨b, off, none⟩) n c)) ∧
            (w'.cell? ⟨wr.heap.size, 0, none⟩ = some (.string (nth f.steps k).name) ∧ w'.cell? ⟨wr.heap.size, 1, none⟩ = some (.slice A' n' c') ∧ w'.cell? ⟨wr.heap.size, 2, none⟩ = some (.bool (nth f.steps k).undo))) ∧
            Below wk.heap.size wk w')
              (first | exact HSB.out _ (Below.refl _ _).drew | exact HSB.out _ ((Below.refl _ _).drew.trans (hbw.mono (Nat.le_refl _))) | (go_split_ands; exact HSB.out _ ((show Below wk.heap.size wk _ by assumption).trans (hbw.mono (show Below wk.heap.size wk _ by assumption).size))) | go_keep)
              (first | (go_at_call 93; refine (HSV.out _ (by first | exact (Below.refl _ _).drew | (go_split_ands; assumption))).mono ?_; rintro e w1 ⟨rfl, hbw⟩) | (go_at_call 103; refine (names_any _ _ _ _ f.steps _ _ (HRK.out.below (by first | exact (Below.refl _ _).drew | (go_split_ands; assumption))) hn).mono ?_; rintro e w1 ⟨A2, c2, rfl, hr2, hbw⟩) | (go_at_call 104; refine (HHV.out _ (by first | exact (Below.refl _ _).drew | (go_split_ands; assumption)) _ _ _ (by assumption)).mono ?_; rintro e w1 ⟨rfl, rfl⟩))
            go_wp2_with fail
            go_roundw
            case rel => 
              have hbk := (show Below wk.heap.size wk w1 by (go_split_ands; assumption))
              exact ⟨k + 1, by omega, by go_num, (hbk.block _ hwx).trans HXK.out, HBW.out.trans (hbk.mono HBW.out.size), fa_succ HP.out HG.out⟩
            case measure => simp [intOf]; omega
      · have HP' := Lib.hid (fun j (hj : j < f.steps.length) => HP.out j (by have := HL.out; omega))
        have hwx : w.heap.size < wr.heap.size := heap_lt HX.out
        have HRK := Lib.hid (HR.out.below HBR.out)
        have HSB : Hid (∀ w', Below wr.heap.size wr w' →
            (w'.cell? ⟨w.heap.size, 0, none⟩ = some (.int .i64 f.ver) ∧ w'.cell? ⟨w.heap.size, 1, none⟩ = some (.slice A n c)) ∧ Below wr.heap.size wr w') := by
          intro w' hb
          have e1 := (hb.block _ hwx).trans HX.out
          exact ⟨⟨(blk_cl (k := 0) e1 rfl).1, (blk_cl (k := 1) e1 rfl).1⟩, hb⟩
        go_wp2_with fail
        clear b1 b2
        go_region_held3 (fun w' => (w'.cell? ⟨w.heap.size, 0, none⟩ = some (.int .i64 f.ver) ∧ w'.cell? ⟨w.heap.size, 1, none⟩ = some (.slice A n c)) ∧ Below wr.heap.size wr w')
          (first | exact HSB.out _ (Below.refl _ _).drew | exact HSB.out _ ((Below.refl _ _).drew.trans (hbw.mono (Nat.le_refl _))) | (go_split_ands; exact HSB.out _ ((show Below wr.heap.size wr _ by assumption).trans (hbw.mono (show Below wr.heap.size wr _ by assumption).size))) | go_keep)
          (first | (go_at_call 105; refine (order_any _ _ _ _ f.steps _ _ (HRK.out.below (by first | exact (Below.refl _ _).drew | (go_split_ands; assumption))) HO.out).mono ?_; rintro e w1 ⟨A2, c2, rfl, hr2, hbw⟩))
        go_wp2_with fail
        go_ret
        have hbk := (show Below wr.heap.size wr w1 by (go_split_ands; assumption))
        refine ⟨ret_b ?_, HBR.out.trans (hbk.mono HBR.out.size)⟩
        cases e : flowB f
        · rw [beq_eq_false_iff_ne]
          intro e2
          have := flowB_iff2.2 ⟨H1.out.1, H1.out.2, H5.out, HP'.out, by rw [HL.out]; omega⟩
          rw [e] at this; cases this
        · have := (flowB_iff2.1 e).2.2.2.2
          rw [HL.out] at this
          rw [beq_iff_eq]; omega
end Go.Proofs.YthdfefgianokgaaGreatDoor

/- Flows that are valid: the reference. -/
namespace Go.Proofs.YthdfefgianokgaaGreatDoor
open Go.RowKit

/-- A world in which memory was made beside w's. -/
structure Bl (w : World) where
  wd : World
  below : Below w.heap.size w wd

instance (w : World) : Nonempty (Bl w) := ⟨⟨w, Below.refl _ _⟩⟩

theorem region_bl {id : Nat} {Q : Exit → Act → World → Prop} {a : Act} {w : World} {l : List Oper} {P : Program} (hm : P.follows .mixedOrders = true) (hB : Region.lexB .any l.toArray = true)
    (h : wpQuiet P l.toArray (fun w' => ∃ x : Bl w, w' = x.wd) (fun a' => ∀ w', (∃ x : Bl w, w' = x.wd) → Q .normal a' w') l a) : (Code.region id l.toArray true).wp P Q a w :=
  wp_region_quiet (C := fun w' => ∃ x : Bl w, w' = x.wd) hm hB ⟨⟨_, (Below.refl _ _).drew⟩, rfl⟩ (by simpa using h)

theorem q_bl {P : Program} {wk : World} {x : Bl wk} {f : FuncId} {args : Array Value} {v : Value} (h : Calls P f args x.wd fun e w' => e = .returned v ∧ Below x.wd.heap.size x.wd w') :
    Calls P f args x.wd fun e w' => e = .returned v ∧ ∃ y : Bl wk, w' = y.wd :=
  h.mono fun _ w' ⟨he, hb⟩ => ⟨he, ⟨w', x.below.trans (hb.mono x.below.size)⟩, rfl⟩
theorem q_bl_same {P : Program} {wk : World} {x : Bl wk} {f : FuncId} {args : Array Value} {v : Value} (h : Calls P f args x.wd fun e w' => e = .returned v ∧ x.wd = w') :
    Calls P f args x.wd fun e w' => e = .returned v ∧ ∃ y : Bl wk, w' = y.wd :=
  h.mono fun _ _ ⟨he, hb⟩ => ⟨he, x, hb.symm⟩

theorem flowS_no {f : Flow} {k : Nat} (hk : k < f.steps.length) (h : stepAt f.steps k = false) : flowB f = false := by
  unfold flowB
  rw [allN_false hk h]; rfl

theorem stepAt_ways (ss : List Step) (k : Nat) : (stepB (nth ss k) = false ∧ stepAt ss k = false) ∨ (stepB (nth ss k) = true ∧
    ((k = 0 ∧ haveB (namesOf ss) (nth ss k).after = stepAt ss k) ∨ (0 < k ∧ ((strLt (nth ss (k - 1)).name (nth ss k).name = false ∧ stepAt ss k = false) ∨ (strLt (nth ss (k - 1)).name (nth ss k).name = true ∧ haveB (namesOf ss) (nth ss k).after = stepAt ss k))))) := by
  unfold stepAt
  cases h1 : stepB (nth ss k)
  · left; simp
  · right
    refine ⟨rfl, ?_⟩
    by_cases h0 : k = 0
    · left; refine ⟨h0, ?_⟩; simp [h0]
    · right
      refine ⟨by omega, ?_⟩
      cases h2 : strLt (nth ss (k - 1)).name (nth ss k).name
      · left; simp [h0]
      · right; simp

theorem name_size {ss : List Step} {j : Nat} (h : stepAt ss j = true) : 1 ≤ (nth ss j).name.size := by
  simp only [stepAt, stepB, nameB, Bool.and_eq_true, decide_eq_true_eq] at h
  omega

theorem have_bad {xs ys : List Str} {k : Nat} (hk : k < ys.length) (h : hasB xs (nth ys k) = false) : haveB xs ys = false := allN_false hk h

set_option maxRecDepth 100000 in
set_option maxHeartbeats 1000000 in
theorem flowS_any (A : Option Addr) (n c : Nat) (f : Flow) (lo : Nat) (w : World) (hr : RStep w lo A n f.steps) (hok : okSteps f.steps) :
    Calls Tryz.prog 41 #[.agg #[.int .i64 f.ver, .slice A n c]] w fun e w' => e = .returned (.bool (flowB f)) ∧ Below w.heap.size w w' := by
  have hn : n ≤ 1048576 := by have := hok.1; rw [hr.1] at this; exact this
  have HO := Lib.hid hok; clear hok
  have HR := Lib.hid hr; clear hr
  have HL := Lib.hid (show f.steps.length = n from HR.out.1)
  go_enter Tryz.func41, Tryz.ntmps41
  go_wp2_with fail
  go_loopw [3] (fun i wr => ∃ k : Nat, k ≤ n ∧ i = .int .i64 k ∧ wr.heap[w.heap.size]? = some (.cells #[.int .i64 f.ver, .slice A n c] 38 (0, 0)) ∧ Below w.heap.size w wr ∧ ∀ j, j < k → stepAt f.steps j = true) (fun i _ => n - (intOf i).toNat)
  case atStart => exact ⟨0, Nat.zero_le _, rfl, heap_new rfl, (Below.refl _ _).alloc (Nat.le_refl _) _, fa_zero⟩
  case round =>
    obtain ⟨k, hk, rfl, hx, hb, hp⟩ := hrel
    have HX := Lib.hid hx; clear hx
    have HBR := Lib.hid hb; clear hb
    have HP := Lib.hid hp; clear hp
    have b1 := (blk_cl (k := 0) HX.out rfl).1
    have b2 := (blk_cl (k := 1) HX.out rfl).1
    by_cases hlt : k < n
    · obtain ⟨b, off, rfl, ⟨_, hbr⟩, hc⟩ := RStep.at_ (HR.out.below HBR.out) hlt
      obtain ⟨A', n', c', ⟨c1, c2, c3⟩, ha, _⟩ := hc k hlt
      have hcp : 0 < k → wr.cell? ⟨b, off + (k - 1) * 3, none⟩ = some (.string (nth f.steps (k - 1)).name) := by
        intro h0
        obtain ⟨_, _, _, ⟨d1, _⟩, _⟩ := hc (k - 1) (by omega)
        exact d1
      clear hc
      have HCP := Lib.hid hcp; clear hcp
      have HL1 := Lib.hid (show k < f.steps.length by rw [HL.out]; exact hlt)
      have hso := HO.out.2 k HL1.out
      have hn' : n' ≤ 1048576 := by have := hso.2.1; rw [ha.1] at this; exact this
      have HSO := Lib.hid hso; clear hso
      have HA := Lib.hid (ha.alloc (.cells #[.string (nth f.steps k).name, .slice A' n' c', .bool (nth f.steps k).undo] 35)); clear ha
      have HRK := Lib.hid ((HR.out.below HBR.out).alloc (.cells #[.string (nth f.steps k).name, .slice A' n' c', .bool (nth f.steps k).undo] 35))
      have HBW := Lib.hid (HBR.out.alloc HBR.out.size (.cells #[.string (nth f.steps k).name, .slice A' n' c', .bool (nth f.steps k).undo] 35))
      have HXK := Lib.hid (show (wr.alloc (.cells #[.string (nth f.steps k).name, .slice A' n' c', .bool (nth f.steps k).undo] 35)).heap[w.heap.size]? = some (.cells #[.int .i64 f.ver, .slice (some ⟨b, off, none⟩) n c] 38 (0, 0)) from heap_old HX.out)
      have HYK := Lib.hid (show (wr.alloc (.cells #[.string (nth f.steps k).name, .slice A' n' c', .bool (nth f.steps k).undo] 35)).heap[wr.heap.size]? = some (.cells #[.string (nth f.steps k).name, .slice A' n' c', .bool (nth f.steps k).undo] 35 (0, 0)) from heap_new rfl)
      have HCK : Hid (0 < k → (wr.alloc (.cells #[.string (nth f.steps k).name, .slice A' n' c', .bool (nth f.steps k).undo] 35)).cell? ⟨b, off + (k - 1) * 3, none⟩ = some (.string (nth f.steps (k - 1)).name)) := fun h0 =>
        (((Below.refl wr.heap.size wr).alloc (Nat.le_refl _) (.cells #[.string (nth f.steps k).name, .slice A' n' c', .bool (nth f.steps k).undo] 35)).cell (p := ⟨b, _, none⟩) hbr).trans (HCP.out h0)
      have hwx : w.heap.size < (wr.alloc (.cells #[.string (nth f.steps k).name, .slice A' n' c', .bool (nth f.steps k).undo] 35)).heap.size := heap_lt HXK.out
      have hwy : wr.heap.size < (wr.alloc (.cells #[.string (nth f.steps k).name, .slice A' n' c', .bool (nth f.steps k).undo] 35)).heap.size := heap_lt HYK.out
      have hwb : b < (wr.alloc (.cells #[.string (nth f.steps k).name, .slice A' n' c', .bool (nth f.steps k).undo] 35)).heap.size := Nat.lt_trans hbr hwy
      go_wp2_with fail
      clear c1 c2 c3 b1 b2
      generalize ewk : wr.alloc (.cells #[.string (nth f.steps k).name, .slice A' n' c', .bool (nth f.steps k).undo] 35) = wk at *
      have X1 : ∀ x : Bl wk, x.wd.cell? ⟨w.heap.size, 0, none⟩ = some (.int .i64 f.ver) := fun x => (blk_cl (k := 0) ((x.below.block _ hwx).trans HXK.out) rfl).1
      have X2 : ∀ x : Bl wk, x.wd.cell? ⟨w.heap.size, 1, none⟩ = some (.slice (some ⟨b, off, none⟩) n c) := fun x => (blk_cl (k := 1) ((x.below.block _ hwx).trans HXK.out) rfl).1
      have Y1 : ∀ x : Bl wk, x.wd.cell? ⟨wr.heap.size, 0, none⟩ = some (.string (nth f.steps k).name) := fun x => (blk_cl (k := 0) ((x.below.block _ hwy).trans HYK.out) rfl).1
      have Y2 : ∀ x : Bl wk, x.wd.cell? ⟨wr.heap.size, 1, none⟩ = some (.slice A' n' c') := fun x => (blk_cl (k := 1) ((x.below.block _ hwy).trans HYK.out) rfl).1
      have Y3 : ∀ x : Bl wk, x.wd.cell? ⟨wr.heap.size, 2, none⟩ = some (.bool (nth f.steps k).undo) := fun x => (blk_cl (k := 2) ((x.below.block _ hwy).trans HYK.out) rfl).1
      have HSV := Lib.hid (fun x : Bl wk => stepS_any _ _ c' (nth f.steps k) _ _ (HA.out.below x.below) HSO.out)
      rcases stepAt_ways f.steps k with ⟨h1, h2⟩ | ⟨h1, ⟨h0, h2⟩ | ⟨h0, ⟨h3, h2⟩ | ⟨h3, h2⟩⟩⟩
      · have HG := Lib.hid (flowS_no HL1.out h2)
        rw [h1] at HSV
        clear h1 h2
        refine region_bl (by kernel_rfl) (by kernel_rfl) ?_
        repeat (go_big_quiet_step ((go_at_call 70; exact q_bl (HSV.out _))))
        refine wpQuiet_nil ?_
        intro _ hw'
        obtain ⟨x, rfl⟩ := hw'
        go_wp2_with fail
        go_ret
        exact ⟨ret_b (by rw [HG.out]), HBW.out.trans (x.below.mono HBW.out.size)⟩
      · have h5 : decide ((0 : Int) < (k : Int)) = false := by simp; omega
        have h6 : decide (0 < k) = false := by simp; omega
        have H2 := Lib.hid h2; clear h2
        rw [h1] at HSV
        clear h1 h0
        refine region_bl (by kernel_rfl) (by kernel_rfl) ?_
        repeat (go_big_quiet_step ((go_at_call 70; exact q_bl (HSV.out _))))
        refine wpQuiet_nil ?_
        intro _ hw'
        obtain ⟨x, rfl⟩ := hw'
        have HA2 := Lib.hid (HA.out.below x.below)
        have HB2 := Lib.hid (HBW.out.trans (x.below.mono HBW.out.size))
        have HX2 := Lib.hid ((x.below.block _ hwx).trans HXK.out)
        have HY2 := Lib.hid ((x.below.block _ hwy).trans HYK.out)
        have HRS := Lib.hid (HRK.out.below x.below)
        generalize x.wd = wi at *
        clear X1 X2 Y1 Y2 Y3 x HSV
        go_wp2_with fail
        go_loopw [5] (fun j wj => ∃ q m : Nat, q ≤ n' ∧ j = .int .i64 q ∧ wj = wi.drewN m ∧ ∀ i, i < q → hasB (namesOf f.steps) (nth (nth f.steps k).after i) = true) (fun j _ => n' - (intOf j).toNat)
        case atStart => exact ⟨0, 0, Nat.zero_le _, rfl, rfl, fa_zero⟩
        case round =>
          obtain ⟨q, m, hq, rfl, rfl, hp2⟩ := hrel
          have HP2 := Lib.hid hp2; clear hp2
          have y2 := (blk_cl (k := 1) HY2.out rfl).1
          have x2 := (blk_cl (k := 1) HX2.out rfl).1
          by_cases hj : q < n'
          · obtain ⟨b', off', rfl, ⟨_, hbr'⟩, hc⟩ := RStr.at_ HA2.out hj
            have e1 := (hc q hj).1
            clear hc
            have HL2 := Lib.hid (show q < (nth f.steps k).after.length by rw [HA2.out.1]; exact hj)
            have HAT := Lib.hid (fun z => l2At_any _ _ c f.steps (nth (nth f.steps k).after q) _ _ (HRS.out.drewN z) hn)
            cases h7 : hasB (namesOf f.steps) (nth (nth f.steps k).after q)
            · have HG := Lib.hid (flowS_no HL1.out (H2.out.symm.trans (have_bad HL2.out h7)))
              have h8 : decide (idxI (namesOf f.steps) (nth (nth f.steps k).after q) < 0) = true := by
                have := hasB_idx (namesOf f.steps) (nth (nth f.steps k).after q); rw [h7] at this
                simp only [decide_eq_false_iff_not, decide_eq_true_eq] at this ⊢; omega
              have h9 : idxI (namesOf f.steps) (nth (nth f.steps k).after q) < 0 := by simpa using h8
              clear h7
              go_wp2_with fail
              go_quiet ((go_at_call 71; exact q_same2 (HAT.out _)))
              go_wp2_with fail
              go_ret
              exact ⟨ret_b (by rw [HG.out]), by rw [World.drewN_drewN]; exact below_drewN HB2.out _⟩
            · have H7 := Lib.hid h7
              have h8 : decide (idxI (namesOf f.steps) (nth (nth f.steps k).after q) < 0) = false := by
                have := hasB_idx (namesOf f.steps) (nth (nth f.steps k).after q); rw [h7] at this
                simp only [decide_eq_false_iff_not, decide_eq_true_eq] at this ⊢; omega
              have h9 : 0 ≤ idxI (namesOf f.steps) (nth (nth f.steps k).after q) := by simpa using h8
              clear h7
              go_wp2_with fail
              go_quiet ((go_at_call 71; exact q_same2 (HAT.out _)))
              go_wp2_with fail
              go_roundw
              case rel => exact ⟨q + 1, _, by omega, by go_num, rfl, fa_succ HP2.out H7.out⟩
              case measure => simp [intOf]; omega
          · have HT := Lib.hid (show stepAt f.steps k = true by rw [← H2.out]; exact allN_true (fun j hj => HP2.out j (by have := HA2.out.1; omega)))
            go_wp2_with fail
            go_roundw
            case rel => exact ⟨k + 1, by omega, by go_num, by rw [World.heap_drewN]; exact HX2.out, below_drewN HB2.out _, fa_succ HP.out HT.out⟩
            case measure => simp [intOf]; omega
      · have h5 : decide ((0 : Int) < (k : Int)) = true := by simp; omega
        have h6 : decide (0 < k) = true := by simp; omega
        have h8 : Op.bytesLess (ByteArray.toList (nth f.steps (k - 1)).name) (ByteArray.toList (nth f.steps k).name) = false := h3
        have Z1 : ∀ x : Bl wk, x.wd.cell? ⟨b, off + (k - 1) * 3, none⟩ = some (.string (nth f.steps (k - 1)).name) := fun x => (x.below.cell (p := ⟨b, _, none⟩) hwb).trans (HCK.out h0)
        have HG := Lib.hid (flowS_no HL1.out h2)
        rw [h1] at HSV
        clear h1 h2 h3
        refine region_bl (by kernel_rfl) (by kernel_rfl) ?_
        repeat (go_big_quiet_step ((go_at_call 70; exact q_bl (HSV.out _))))
        refine wpQuiet_nil ?_
        intro _ hw'
        obtain ⟨x, rfl⟩ := hw'
        clear h8
        go_wp2_with fail
        go_ret
        exact ⟨ret_b (by rw [HG.out]), HBW.out.trans (x.below.mono HBW.out.size)⟩
      · have h5 : decide ((0 : Int) < (k : Int)) = true := by simp; omega
        have h6 : decide (0 < k) = true := by simp; omega
        have h8 : Op.bytesLess (ByteArray.toList (nth f.steps (k - 1)).name) (ByteArray.toList (nth f.steps k).name) = true := h3
        have Z1 : ∀ x : Bl wk, x.wd.cell? ⟨b, off + (k - 1) * 3, none⟩ = some (.string (nth f.steps (k - 1)).name) := fun x => (x.below.cell (p := ⟨b, _, none⟩) hwb).trans (HCK.out h0)
        have H2 := Lib.hid h2
        rw [h1] at HSV
        clear h1 h2 h3
        refine region_bl (by kernel_rfl) (by kernel_rfl) ?_
        repeat (go_big_quiet_step ((go_at_call 70; exact q_bl (HSV.out _))))
        refine wpQuiet_nil ?_
        intro _ hw'
        obtain ⟨x, rfl⟩ := hw'
        have HA2 := Lib.hid (HA.out.below x.below)
        have HB2 := Lib.hid (HBW.out.trans (x.below.mono HBW.out.size))
        have HX2 := Lib.hid ((x.below.block _ hwx).trans HXK.out)
        have HY2 := Lib.hid ((x.below.block _ hwy).trans HYK.out)
        have HRS := Lib.hid (HRK.out.below x.below)
        generalize x.wd = wi at *
        clear X1 X2 Y1 Y2 Y3 Z1 x HSV h8 h5 h6
        go_wp2_with fail
        go_loopw [5] (fun j wj => ∃ q m : Nat, q ≤ n' ∧ j = .int .i64 q ∧ wj = wi.drewN m ∧ ∀ i, i < q → hasB (namesOf f.steps) (nth (nth f.steps k).after i) = true) (fun j _ => n' - (intOf j).toNat)
        case atStart => exact ⟨0, 0, Nat.zero_le _, rfl, rfl, fa_zero⟩
        case round =>
          obtain ⟨q, m, hq, rfl, rfl, hp2⟩ := hrel
          have HP2 := Lib.hid hp2; clear hp2
          have y2 := (blk_cl (k := 1) HY2.out rfl).1
          have x2 := (blk_cl (k := 1) HX2.out rfl).1
          by_cases hj : q < n'
          · obtain ⟨b', off', rfl, ⟨_, hbr'⟩, hc⟩ := RStr.at_ HA2.out hj
            have e1 := (hc q hj).1
            clear hc
            have HL2 := Lib.hid (show q < (nth f.steps k).after.length by rw [HA2.out.1]; exact hj)
            have HAT := Lib.hid (fun z => l2At_any _ _ c f.steps (nth (nth f.steps k).after q) _ _ (HRS.out.drewN z) hn)
            cases h7 : hasB (namesOf f.steps) (nth (nth f.steps k).after q)
            · have HG := Lib.hid (flowS_no HL1.out (H2.out.symm.trans (have_bad HL2.out h7)))
              have h8 : decide (idxI (namesOf f.steps) (nth (nth f.steps k).after q) < 0) = true := by
                have := hasB_idx (namesOf f.steps) (nth (nth f.steps k).after q); rw [h7] at this
                simp only [decide_eq_false_iff_not, decide_eq_true_eq] at this ⊢; omega
              have h9 : idxI (namesOf f.steps) (nth (nth f.steps k).after q) < 0 := by simpa using h8
              clear h7
              go_wp2_with fail
              go_quiet ((go_at_call 71; exact q_same2 (HAT.out _)))
              go_wp2_with fail
              go_ret
              exact ⟨ret_b (by rw [HG.out]), by rw [World.drewN_drewN]; exact below_drewN HB2.out _⟩
            · have H7 := Lib.hid h7
              have h8 : decide (idxI (namesOf f.steps) (nth (nth f.steps k).after q) < 0) = false := by
                have := hasB_idx (namesOf f.steps) (nth (nth f.steps k).after q); rw [h7] at this
                simp only [decide_eq_false_iff_not, decide_eq_true_eq] at this ⊢; omega
              have h9 : 0 ≤ idxI (namesOf f.steps) (nth (nth f.steps k).after q) := by simpa using h8
              clear h7
              go_wp2_with fail
              go_quiet ((go_at_call 71; exact q_same2 (HAT.out _)))
              go_wp2_with fail
              go_roundw
              case rel => exact ⟨q + 1, _, by omega, by go_num, rfl, fa_succ HP2.out H7.out⟩
              case measure => simp [intOf]; omega
          · have HT := Lib.hid (show stepAt f.steps k = true by rw [← H2.out]; exact allN_true (fun j hj => HP2.out j (by have := HA2.out.1; omega)))
            go_wp2_with fail
            go_roundw
            case rel => exact ⟨k + 1, by omega, by go_num, by rw [World.heap_drewN]; exact HX2.out, below_drewN HB2.out _, fa_succ HP.out HT.out⟩
            case measure => simp [intOf]; omega
    · have HP' := Lib.hid (fun j (hj : j < f.steps.length) => HP.out j (by have := HL.out; omega))
      have HAL := Lib.hid (show allN f.steps.length (stepAt f.steps) = true from allN_true HP'.out)
      have HRK := Lib.hid (HR.out.below HBR.out)
      have hwx : w.heap.size < wr.heap.size := heap_lt HX.out
      have HNE := Lib.hid (fun j (hj : j < n) => name_size (HP'.out j (by rw [HL.out]; exact hj)))
      have HG := Lib.hid (show flowB f = (inB f.ver 1 99 && inB n 1 8 && decide ((ordL f.steps).length = n)) by unfold flowB; rw [HAL.out, HL.out, Bool.true_and])
      cases h1 : inB f.ver 1 99
      · have H1 := Lib.hid (fun z => l6In_any f.ver 1 99 (wr.drewN z)) 
        rw [h1] at H1 HG
        clear h1
        go_wp2_with fail
        go_quiet ((go_at_call 72; exact q_same (H1.out _)))
        go_wp2_with fail
        go_ret
        exact ⟨ret_b (by rw [HG.out]; rfl), below_drewN HBR.out _⟩
      have H1 := Lib.hid (fun z : World => l6In_any f.ver 1 99 z)
      have H2 := Lib.hid (fun z : World => l6In_any n 1 8 z)
      rw [h1] at H1 HG
      clear h1
      cases h2 : inB n 1 8
      · rw [h2] at H2 HG
        clear h2
        go_wp2_with fail
        go_quiet ((first | (go_at_call_of 72 (Value.int .i64 f.ver); exact q_same (H1.out _)) | (go_at_call 72; exact q_same (H2.out _))))
        go_wp2_with fail
        go_ret
        exact ⟨ret_b (by rw [HG.out]; rfl), below_drewN HBR.out _⟩
      · rw [h2] at H2 HG
        clear h2
        have HSB : Hid (∀ w', Below wr.heap.size wr w' →
            (w'.cell? ⟨w.heap.size, 0, none⟩ = some (.int .i64 f.ver) ∧ w'.cell? ⟨w.heap.size, 1, none⟩ = some (.slice A n c)) ∧ Below wr.heap.size wr w') := by
          intro w' hb
          have e1 := (hb.block _ hwx).trans HX.out
          exact ⟨⟨(blk_cl (k := 0) e1 rfl).1, (blk_cl (k := 1) e1 rfl).1⟩, hb⟩
        go_wp2_with fail
        clear b1 b2
        go_region_held3 (fun w' => (w'.cell? ⟨w.heap.size, 0, none⟩ = some (.int .i64 f.ver) ∧ w'.cell? ⟨w.heap.size, 1, none⟩ = some (.slice A n c)) ∧ Below wr.heap.size wr w')
          (first | exact HSB.out _ (Below.refl _ _).drew | exact HSB.out _ ((Below.refl _ _).drew.trans (hbw.mono (Nat.le_refl _))) | (go_split_ands; exact HSB.out _ ((show Below wr.heap.size wr _ by assumption).trans (hbw.mono (show Below wr.heap.size wr _ by assumption).size))) | go_keep)
          (first | (go_at_call_of 72 (Value.int .i64 f.ver); refine (H1.out _).mono ?_; rintro e w1 ⟨rfl, rfl⟩) | (go_at_call 72; refine (H2.out _).mono ?_; rintro e w1 ⟨rfl, rfl⟩) | (go_at_call 73; refine (l2Order_any _ _ _ f.steps _ _ (HRK.out.below (by first | exact (Below.refl _ _).drew | (go_split_ands; assumption))) HO.out HNE.out).mono ?_; rintro e w1 ⟨A2, c2, rfl, hr2, hbw⟩))
        go_wp2_with fail
        go_ret
        have hbk := (show Below wr.heap.size wr w1 by (go_split_ands; assumption))
        refine ⟨ret_b ?_, HBR.out.trans (hbk.mono HBR.out.size)⟩
        rw [HG.out, Bool.true_and, Bool.true_and]
        rw [Bool.eq_iff_iff, beq_iff_eq, decide_eq_true_eq]
        omega
end Go.Proofs.YthdfefgianokgaaGreatDoor

/- What of a flow is ready: both. -/
namespace Go.Proofs.YthdfefgianokgaaGreatDoor
open Go.RowKit

def readyF (f : Flow) (done : List Str) : List Str := if flowB f then rdyL f.steps done else []
theorem readyF_yes {f : Flow} {done : List Str} (h : flowB f = true) : readyF f done = rdyL f.steps done := by unfold readyF; rw [h]; rfl
theorem readyF_no {f : Flow} {done : List Str} (h : flowB f = false) : readyF f done = [] := by unfold readyF; rw [h]; rfl

set_option maxRecDepth 100000 in
set_option maxHeartbeats 1000000 in
theorem flowReadyS_any (A B : Option Addr) (n c m d : Nat) (f : Flow) (done : List Str) (lo lo' : Nat) (w : World) (hr : RStep w lo A n f.steps) (hok : okSteps f.steps) (hd : RStr w lo' B m done) (hm : m ≤ 1048576) :
    Calls Tryz.prog 76 #[.agg #[.int .i64 f.ver, .slice A n c], .slice B m d] w fun e w' => ∃ A' n' c', e = .returned (.slice A' n' c') ∧ RStr w' w.heap.size A' n' (readyF f done) ∧ Below w.heap.size w w' := by
  have hn : n ≤ 1048576 := by have := hok.1; rw [hr.1] at this; exact this
  have HO := Lib.hid hok; clear hok
  have HR := Lib.hid hr; clear hr
  have HD := Lib.hid hd; clear hd
  have HL := Lib.hid (show f.steps.length = n from HR.out.1)
  have HFB := Lib.hid (show ∀ k, flowB f = false → k < n → True from fun _ _ _ => trivial)
  go_enter Tryz.func76, Tryz.ntmps76
  go_wp2_with fail
  go_loopw [5, 6] (fun v i wr => ∃ k q : Nat, k ≤ n ∧ i = .int .i64 k ∧ q ≤ k ∧ (flowB f = false → k = 0) ∧ wr.heap[w.heap.size]? = some (.cells #[.int .i64 f.ver, .slice A n c] 38 (0, 0)) ∧ Own 9 1 w wr v q ((rdyTo f.steps done k).map Value.string)) (fun _ i _ => n - (intOf i).toNat)
  case atStart =>
    have hb := (Below.refl w.heap.size w).alloc (Nat.le_refl _) (.cells #[.int .i64 f.ver, .slice A n c] 38)
    exact ⟨0, 0, Nat.zero_le _, rfl, Nat.le_refl _, fun _ => rfl, heap_old (heap_new rfl), by rw [show rdyTo f.steps done 0 = [] from rfl]; have hm0 := World.ownsRow_made (base := w.heap.size) (e := 9) (size := 1) (w.alloc (.cells #[.int .i64 f.ver, .slice A n c] 38)) #[] 0 hb.size (Nat.zero_le _) rfl; rw [show (w.alloc (.cells #[.int .i64 f.ver, .slice A n c] 38)).heap.size = w.heap.size + 1 by simp] at hm0; exact ⟨hm0, hb.alloc hb.size _⟩⟩
  case round =>
    obtain ⟨k, q, hk, rfl, hq, hz, hx, how⟩ := hrel
    have HX := Lib.hid hx; clear hx
    have HZ := Lib.hid hz; clear hz
    have HW := Lib.hid how; clear how
    have b1 := (blk_cl (k := 0) HX.out rfl).1
    have b2 := (blk_cl (k := 1) HX.out rfl).1
    by_cases hlt : k < n
    · go_wp2_with fail
      refine (flowS_any _ _ _ f _ _ (HR.out.below HW.out.below) HO.out).mono ?_
      rintro e w1 ⟨rfl, hb⟩
      have HB := Lib.hid hb; clear hb
      have HX1 := Lib.hid ((HB.out.block _ (heap_lt HX.out)).trans HX.out)
      have HW1 := Lib.hid (HW.out.below_ HB.out)
      have x1 := (blk_cl (k := 0) HX1.out rfl).1
      have x2 := (blk_cl (k := 1) HX1.out rfl).1
      cases h : flowB f
      · have h0 : k = 0 := HZ.out h
        have HE := Lib.hid (readyF_no (done := done) h)
        have HT : Hid (rdyTo f.steps done k = []) := by rw [h0]; rfl
        clear h h0
        go_wp2_with fail
        go_ret
        obtain ⟨A', c', rfl, hrs⟩ := own_str HW1.out.row
        rw [HT.out] at hrs
        exact ⟨_, _, _, rfl, by rw [HE.out]; exact hrs, HW1.out.below⟩
      · have HF := Lib.hid h; clear h
        obtain ⟨b, off, rfl, ⟨_, hbr⟩, hc⟩ := RStep.at_ (HR.out.below HW1.out.below) hlt
        obtain ⟨A', n', c', ⟨c1, c2, c3⟩, ha, _⟩ := hc k hlt
        clear hc
        have HL1 := Lib.hid (show k < f.steps.length by rw [HL.out]; exact hlt)
        have hn' : n' ≤ 1048576 := by have := (HO.out.2 k HL1.out).2.1; rw [ha.1] at this; exact this
        have HA := Lib.hid ha; clear ha
        have HD1 := Lib.hid (HD.out.below HW1.out.below)
        clear b1 b2
        rcases rdyB_ways done (nth f.steps k) with ⟨h1, h2⟩ | ⟨h1, h2⟩
        · have h3 := idx_pos h1
          have HT := Lib.hid (rdyTo_no HL1.out h2); clear h1 h2
          go_wp2_with (go_at_call 110; refine (l1At_any _ _ _ done _ _ _ HD1.out hm).mono ?_; rintro e w' ⟨rfl, rfl⟩)
          go_roundw
          case rel => exact ⟨k + 1, q, by omega, by go_num, by omega, fun h => (by rw [HF.out] at h; cases h), HX1.out, by rw [HT.out]; exact HW1.out⟩
          case measure => simp [intOf]; omega
        · have h3 := idx_neg h1
          have H2 := Lib.hid h2; clear h1 h2
          cases h4 : haveB done (nth f.steps k).after
          · have HT := Lib.hid (rdyTo_no HL1.out (H2.out.symm.trans h4))
            go_wp2_with (first | (go_at_call 110; refine (l1At_any _ _ _ done _ _ _ HD1.out hm).mono ?_; rintro e w' ⟨rfl, rfl⟩) | (go_at_call 112; refine (l1Have_any _ _ _ _ _ _ done _ _ _ _ HD1.out hm HA.out hn').mono ?_; rintro e w' ⟨rfl, rfl⟩))
            go_roundw
            case rel => exact ⟨k + 1, q, by omega, by go_num, by omega, fun h => (by rw [HF.out] at h; cases h), HX1.out, by rw [HT.out]; exact HW1.out⟩
            case measure => simp [intOf]; omega
          · have HT := Lib.hid (rdyTo_yes HL1.out (H2.out.symm.trans h4))
            go_wp2_with (first | (go_at_call 110; refine (l1At_any _ _ _ done _ _ _ HD1.out hm).mono ?_; rintro e w' ⟨rfl, rfl⟩) | (go_at_call 112; refine (l1Have_any _ _ _ _ _ _ done _ _ _ _ HD1.out hm HA.out hn').mono ?_; rintro e w' ⟨rfl, rfl⟩) | (at_builtin; refine app_str w _ q (rdyTo f.steps done k) _ (nth f.steps k).name ?c0 rfl (.tmp 38) (.tmp 45) rfl rfl rfl ?c1 (by omega) ?_))
            case c0 => exact HW1.out.alloc _
            case c1 => exact heap_new rfl
            intro v' w' how' hg'
            have HO4 := Lib.hid how'; clear how'
            have HG4 := Lib.hid hg'; clear hg'
            go_wp2_with fail
            go_roundw
            case rel =>
              refine ⟨k + 1, q + 1, by omega, by go_num, by omega, fun h => (by rw [HF.out] at h; cases h), ?_, by rw [HT.out, List.map_append]; exact HO4.out⟩
              refine grown_blk HG4.out (heap_old HX1.out) ?_
              intro e
              exact row_ne HW1.out.row HX1.out (by decide) e
            case measure => simp [intOf]; omega
    · have hk2 : k = n := by omega
      go_wp2_with fail
      go_ret
      obtain ⟨A', c', rfl, hrs⟩ := own_str HW.out.row
      refine ⟨_, _, _, rfl, ?_, HW.out.below⟩
      rw [rdyTo_all (by rw [HL.out]; omega)] at hrs
      cases h : flowB f
      · have h0 := HZ.out h
        rw [readyF_no h]
        have e : f.steps = [] := List.eq_nil_of_length_eq_zero (by rw [HL.out]; omega)
        rw [e] at hrs
        exact hrs
      · rw [readyF_yes h]; exact hrs
end Go.Proofs.YthdfefgianokgaaGreatDoor

/- How many orders a flow has. No program in sight. -/
namespace Go.Proofs.YthdfefgianokgaaGreatDoor
open Go.RowKit

/-- What is done: steps of the flow, each once. -/
structure Done (ss : List Step) (done : List Str) : Prop where
  nodup : done.Nodup
  sub : ∀ x ∈ done, x ∈ namesOf ss

theorem Done.nil {ss : List Step} : Done ss [] := ⟨List.nodup_nil, by simp⟩
theorem Done.len {ss : List Step} {done : List Str} (h : Done ss done) : done.length ≤ ss.length := by
  have := nodup_le h.nodup h.sub
  rwa [namesOf_len] at this
theorem Done.next {ss : List Step} {done : List Str} {x : Str} (h : Done ss done) (hx : x ∈ rdyL ss done) : Done ss (done ++ [x]) := by
  obtain ⟨h1, h2⟩ := rdyL_new hx
  refine ⟨?_, ?_⟩
  · rw [List.nodup_append]
    refine ⟨h.nodup, by simp, ?_⟩
    intro a ha b hb
    rw [List.mem_singleton] at hb
    subst hb
    intro e; subst e; exact h1 ha
  · intro y hy
    rcases List.mem_append.1 hy with hy | hy
    · exact h.sub y hy
    · rw [List.mem_singleton] at hy; subst hy; exact h2

theorem rdyL_nodup {ss : List Step} {done : List Str} (hn : (namesOf ss).Nodup) : (rdyL ss done).Nodup := by
  unfold rdyL
  exact List.Nodup.sublist (List.Sublist.map _ List.filter_sublist) hn

theorem ready_some {ss : List Step} {done : List Str} (hc : (ordL ss).length = ss.length) (hlt : done.length < ss.length) : rdyL ss done ≠ [] := by
  intro hnil
  have key : ∀ j, ∀ x ∈ ordTo ss j, x ∈ done := by
    intro j
    induction j with
    | zero => intro x hx; cases hx
    | succ j ih =>
      intro x hx
      cases hr : rdyL ss (ordTo ss j) with
      | nil =>
        rw [show ordTo ss (j + 1) = ordTo ss j from ordStep_nil hr] at hx
        exact ih x hx
      | cons y r =>
        rw [show ordTo ss (j + 1) = ordTo ss j ++ [y] from ordStep_cons hr] at hx
        rcases List.mem_append.1 hx with hx | hx
        · exact ih x hx
        · rw [List.mem_singleton] at hx
          subst hx
          obtain ⟨s, hs, hb, hx⟩ := rdyL_mem.1 (show x ∈ rdyL ss (ordTo ss j) by rw [hr]; simp)
          by_cases hm : x ∈ done
          · exact hm
          exfalso
          have : x ∈ rdyL ss done := by
            refine rdyL_mem.2 ⟨s, hs, ?_, hx⟩
            unfold rdyB at hb ⊢
            simp only [Bool.and_eq_true, Bool.not_eq_true'] at hb ⊢
            refine ⟨hasB_false.2 (by rw [hx]; exact hm), ?_⟩
            exact haveB_iff.2 (fun y hy => ih y (haveB_iff.1 hb.2 y hy))
          rw [hnil] at this
          cases this
  have h2 := nodup_le (ordTo_nodup ss ss.length).1 (ys := done) (key ss.length)
  have : (ordTo ss ss.length).length = ss.length := hc
  omega

end Go.Proofs.YthdfefgianokgaaGreatDoor

/- Counting orders: both. -/
namespace Go.Proofs.YthdfefgianokgaaGreatDoor
open Go.RowKit

set_option maxRecDepth 100000 in
theorem cloneNames_any (A : Option Addr) (n c : Nat) (xs : List Str) (lo : Nat) (w : World) (hr : RStr w lo A n xs) (hn : n ≤ 1048576) :
    Calls Tryz.prog 90 #[.slice A n c] w fun e w' => ∃ v, e = .returned v ∧ Own 9 1 w w' v n (xs.map Value.string) := by
  have HR := Lib.hid hr; clear hr
  go_enter Tryz.func90, Tryz.ntmps90
  go_wp2_with (at_builtin; refine apps_str w _ 0 [] lo A n c xs ?c0 HR.out rfl (.const (.slice none 0 0)) (.tmp 3) rfl rfl rfl (by omega) ?_)
  case c0 => exact ⟨World.ownsRow_nil _ _ _ _, Below.refl _ _⟩
  intro v' w' how' hg'
  go_wp2_with fail
  go_ret
  exact ⟨_, rfl, how'⟩

end Go.Proofs.YthdfefgianokgaaGreatDoor

/- Counting orders: the functions. -/
namespace Go.Proofs.YthdfefgianokgaaGreatDoor
open Go.RowKit

theorem steps_lt {ss : List Step} (h : ∀ j, j < ss.length → stepAt ss j = true) : ∀ j, j < ss.length → ∀ i, i < j → strLt (nth ss i).name (nth ss j).name = true := by
  intro j
  induction j with
  | zero => intro _ i hi; omega
  | succ j ih =>
    intro hj i hi
    have h1 := h (j + 1) hj
    simp only [stepAt, Bool.and_eq_true, Bool.or_eq_true, decide_eq_true_eq] at h1
    have h2 : strLt (nth ss j).name (nth ss (j + 1)).name = true := by
      rcases h1.1.2 with h2 | h2
      · omega
      · simpa using h2
    by_cases e : i = j
    · rw [e]; exact h2
    · exact strLt_trans (ih (by omega) i (by omega)) h2

theorem flow_nodup {f : Flow} (h : flowB f = true) : (namesOf f.steps).Nodup := by
  have h1 := steps_lt (flowB_iff.1 h).1
  unfold List.Nodup
  rw [List.pairwise_iff_getElem]
  intro i j hi hj hij
  rw [namesOf_len] at hi hj
  rw [← nth_eq, ← nth_eq, namesOf_at hi, namesOf_at hj]
  exact strLt_ne (h1 j hj i hij)

end Go.Proofs.YthdfefgianokgaaGreatDoor

/- Counting orders: the reference. -/
namespace Go.Proofs.YthdfefgianokgaaGreatDoor
open Go.RowKit

theorem own_new {w0 w : World} {b : Nat} (hb : Below w0.heap.size w0 w) (e : b = w.heap.size) : Own 9 1 w0 (w.alloc (.cells #[] 9)) (.slice (some ⟨b, 0, none⟩) 0 0) 0 (([] : List Str).map Value.string) := by
  subst e
  exact ⟨World.ownsRow_made w #[] 0 hb.size (Nat.zero_le _) rfl, hb.alloc hb.size _⟩

end Go.Proofs.YthdfefgianokgaaGreatDoor

/- Levels of a flow: depth and width. No program in sight. -/
namespace Go.Proofs.YthdfefgianokgaaGreatDoor
open Go.RowKit

/-- What is done after k levels. -/
def lvDone (ss : List Step) : Nat → List Str
  | 0 => []
  | k + 1 => lvDone ss k ++ rdyL ss (lvDone ss k)
/-- How many steps level k has. -/
def lvLen (ss : List Step) (k : Nat) : Nat := (rdyL ss (lvDone ss k)).length
theorem lvDone_len (ss : List Step) (k : Nat) : (lvDone ss (k + 1)).length = (lvDone ss k).length + lvLen ss k := by
  simp [lvDone, lvLen]

theorem Done.all {ss : List Step} {done : List Str} (hn : (namesOf ss).Nodup) (h : Done ss done) : Done ss (done ++ rdyL ss done) := by
  refine ⟨?_, ?_⟩
  · rw [List.nodup_append]
    refine ⟨h.nodup, rdyL_nodup hn, ?_⟩
    intro a ha b hb e
    subst e
    exact (rdyL_new hb).1 ha
  · intro x hx
    rcases List.mem_append.1 hx with hx | hx
    · exact h.sub x hx
    · exact (rdyL_new hx).2
theorem lvDone_done {ss : List Step} (hn : (namesOf ss).Nodup) : ∀ k, Done ss (lvDone ss k)
  | 0 => Done.nil
  | k + 1 => (lvDone_done hn k).all hn
theorem lvLen_pos {ss : List Step} {k : Nat} (hc : (ordL ss).length = ss.length) (hlt : (lvDone ss k).length < ss.length) : 1 ≤ lvLen ss k := by
  have := ready_some hc hlt
  unfold lvLen
  cases h : rdyL ss (lvDone ss k) with
  | nil => exact absurd h this
  | cons x r => simp

/-- The levels end behind d of them. -/
structure Lv (ss : List Step) (d : Nat) : Prop where
  stop : ss.length ≤ (lvDone ss d).length
  go : ∀ j, j < d → (lvDone ss j).length < ss.length

theorem lv_grow {ss : List Step} (hc : (ordL ss).length = ss.length) {d : Nat} (h : ∀ j, j < d → (lvDone ss j).length < ss.length) : ∀ k, k ≤ d → k ≤ (lvDone ss k).length
  | 0, _ => Nat.zero_le _
  | k + 1, hk => by
    have h1 := lv_grow hc h k (by omega)
    have h2 := lvLen_pos hc (h k (by omega))
    rw [lvDone_len]; omega
theorem Lv.le {ss : List Step} {d : Nat} (hc : (ordL ss).length = ss.length) (h : ∀ j, j < d → (lvDone ss j).length < ss.length) : d ≤ ss.length := by
  rcases Nat.eq_zero_or_pos d with h0 | h0
  · omega
  · have h1 := lv_grow hc h (d - 1) (by omega)
    have h2 := h (d - 1) (by omega)
    omega
theorem Lv.full {ss : List Step} {d : Nat} (hn : (namesOf ss).Nodup) (h : Lv ss d) : (lvDone ss d).length = ss.length := by
  have h1 := (lvDone_done hn d).len
  have h2 := h.stop
  omega
end Go.Proofs.YthdfefgianokgaaGreatDoor

/- Orders do not depend on what can be undone; who comes after less has no fewer orders. No program in sight. -/
namespace Go.Proofs.YthdfefgianokgaaGreatDoor
open Go.RowKit

/-- Steps of the same names that come after less. -/
structure Less (ss tt : List Step) : Prop where
  len : tt.length = ss.length
  name : ∀ j, j < ss.length → (nth tt j).name = (nth ss j).name
  after : ∀ j, j < ss.length → ∀ y ∈ (nth tt j).after, y ∈ (nth ss j).after

theorem Less.names {ss tt : List Step} (h : Less ss tt) : namesOf tt = namesOf ss := by
  refine list_ext (by rw [namesOf_len, namesOf_len]; exact h.len) ?_
  intro j hj
  rw [namesOf_len, h.len] at hj
  rw [namesOf_at (by rw [h.len]; exact hj), namesOf_at hj]
  exact h.name j hj
theorem Less.rdy {ss tt : List Step} (h : Less ss tt) {done : List Str} {j : Nat} (hj : j < ss.length) (hr : rdyB done (nth ss j) = true) : rdyB done (nth tt j) = true := by
  unfold rdyB at hr ⊢
  simp only [Bool.and_eq_true, Bool.not_eq_true'] at hr ⊢
  refine ⟨by rw [h.name j hj]; exact hr.1, haveB_iff.2 ?_⟩
  intro y hy
  exact haveB_iff.1 hr.2 y (h.after j hj y hy)
theorem Less.ready {ss tt : List Step} (h : Less ss tt) (done : List Str) : (rdyL ss done).Sublist (rdyL tt done) := by
  have key : ∀ k, k ≤ ss.length → (rdyTo ss done k).Sublist (rdyTo tt done k) := by
    intro k
    induction k with
    | zero => intro _; exact List.Sublist.refl _
    | succ k ih =>
      intro hk
      have i1 := ih (by omega)
      cases h1 : rdyB done (nth ss k) with
      | true =>
        rw [rdyTo_yes (by omega) h1, rdyTo_yes (by rw [h.len]; omega) (h.rdy (by omega) h1), h.name k (by omega)]
        exact List.Sublist.append i1 (List.Sublist.refl _)
      | false =>
        rw [rdyTo_no (by omega) h1]
        cases h2 : rdyB done (nth tt k) with
        | true =>
          rw [rdyTo_yes (by rw [h.len]; omega) h2]
          exact i1.trans (List.sublist_append_left _ _)
        | false =>
          rw [rdyTo_no (by rw [h.len]; omega) h2]
          exact i1
  have := key ss.length (Nat.le_refl _)
  rwa [rdyTo_all (Nat.le_refl _), rdyTo_all (by rw [h.len]; exact Nat.le_refl _)] at this

theorem ord_full {tt : List Step} (h : ∀ done, Done tt done → done.length < tt.length → rdyL tt done ≠ []) : (ordL tt).length = tt.length := by
  have key : ∀ k, k ≤ tt.length → (ordTo tt k).length = k := by
    intro k
    induction k with
    | zero => intro _; rfl
    | succ k ih =>
      intro hk
      have i1 := ih (by omega)
      obtain ⟨n1, n2⟩ := ordTo_nodup tt k
      have := h (ordTo tt k) ⟨n1, n2⟩ (by omega)
      cases hr : rdyL tt (ordTo tt k) with
      | nil => exact absurd hr this
      | cons x r =>
        show (ordStep tt (ordTo tt k)).length = k + 1
        rw [ordStep_cons hr, List.length_append, i1]; rfl
  exact key tt.length (Nat.le_refl _)

theorem Less.full {ss tt : List Step} (h : Less ss tt) (hc : (ordL ss).length = ss.length) : (ordL tt).length = tt.length := by
  refine ord_full ?_
  intro done _ hl hnil
  have := ready_some hc (done := done) (by rw [← h.len]; exact hl)
  have h2 := h.ready done
  rw [hnil] at h2
  exact this (List.sublist_nil.1 h2)
theorem Less.flow {f : Flow} {tt : List Step} (h : Less f.steps tt) (hf : flowB f = true) (hs : ∀ j, j < f.steps.length → stepB (nth tt j) = true) : flowB ⟨f.ver, tt⟩ = true := by
  obtain ⟨h1, h2, h3, h4⟩ := flowB_iff.1 hf
  refine flowB_iff.2 ⟨?_, h2, ?_, h.full h4⟩
  · intro j hj
    have hj' : j < f.steps.length := by have := h.len; show j < _; rw [← this]; exact hj
    have := h1 j hj'
    unfold stepAt at this ⊢
    simp only [Bool.and_eq_true] at this ⊢
    refine ⟨⟨hs j hj', ?_⟩, ?_⟩
    · by_cases h0 : j = 0
      · simp [h0]
      · show (decide (j = 0) || strLt (nth tt (j - 1)).name (nth tt j).name) = true
        rw [h.name (j - 1) (by omega), h.name j hj']; exact this.1.2
    · refine haveB_iff.2 ?_
      intro y hy
      show y ∈ namesOf tt
      rw [h.names]
      exact haveB_iff.1 this.2 y (h.after j hj' y hy)
  · show 1 ≤ tt.length ∧ tt.length ≤ 8
    rw [h.len]; exact h3

theorem step_ok {f : Flow} {j : Nat} (hf : flowB f = true) (hj : j < f.steps.length) : stepB (nth f.steps j) = true := by
  have := (flowB_iff.1 hf).1 j hj
  unfold stepAt at this
  simp only [Bool.and_eq_true] at this
  exact this.1.1
end Go.Proofs.YthdfefgianokgaaGreatDoor

/- Rows of steps of the call's own. -/
namespace Go.Proofs.YthdfefgianokgaaGreatDoor
open Go.RowKit

theorem On.drew {g : Nat} {w w1 : World} (h : On g w w1) : On g w w1.drew := ⟨h.os, h.tape, h.output, h.size, h.block⟩
theorem set3 {w : World} {b : Nat} {a0 a1 a2 u0 u1 u2 : Value} {t : TypeId} {fr : Nat × Nat} (h : w.heap[b]? = some (.cells #[a0, a1, a2] t fr)) :
    (((w.setCell ⟨b, 0, none⟩ u0).setCell ⟨b, 1, none⟩ u1).setCell ⟨b, 2, none⟩ u2).heap[b]? = some (.cells #[u0, u1, u2] t fr) := by
  simp [World.setCell, Array.getElem?_modify, h]
theorem Dr.set3 {T : TypeId} {w0 w : World} {g q b : Nat} {u0 u1 u2 : Value} (h : Dr T w0 g q w) (hb : w0.heap.size ≤ b) (hg : g < b) : Dr T w0 g q (((w.setCell ⟨b, 0, none⟩ u0).setCell ⟨b, 1, none⟩ u1).setCell ⟨b, 2, none⟩ u2) :=
  ((h.set_ hb hg _ _).set_ hb hg _ _).set_ hb hg _ _
theorem sz_push (w : World) (o : Obj) : w.heap.size + 1 = (w.alloc o).heap.size := by simp
theorem row_set {w : World} {base b o : Nat} {e t : TypeId} {size : Nat} {v u : Value} {n : Nat} {cs : List Value} {cs' : Array Value} (h : w.ownsRow base e size v n cs) (hb : w.heap[b]? = some (.cells cs' t (0, 0))) (hne : e ≠ t) : (w.setCell ⟨b, o, none⟩ u).ownsRow base e size v n cs :=
  h.kept (row := some b) ⟨rfl, rfl, rfl, by simp, fun k _ hk => Below.heap_setCell _ _ _ _ (by intro e; exact hk (by rw [e]))⟩ (.inr (row_ne h hb hne))
theorem set_at {w : World} {b o : Nat} {cs : Array Value} {t : TypeId} {fr : Nat × Nat} {u : Value} (h : w.heap[b]? = some (.cells cs t fr)) : (w.setCell ⟨b, o, none⟩ u).heap[b]? = some (.cells (cs.setIfInBounds o u) t fr) := by
  simp [World.setCell, Array.getElem?_modify, h]
theorem set31 {w : World} {b : Nat} {a0 a1 a2 u : Value} {t : TypeId} {fr : Nat × Nat} (h : w.heap[b]? = some (.cells #[a0, a1, a2] t fr)) : (w.setCell ⟨b, 1, none⟩ u).heap[b]? = some (.cells #[a0, u, a2] t fr) := set_at h
theorem set21 {w : World} {b : Nat} {a0 a1 u : Value} {t : TypeId} {fr : Nat × Nat} (h : w.heap[b]? = some (.cells #[a0, a1] t fr)) : (w.setCell ⟨b, 1, none⟩ u).heap[b]? = some (.cells #[a0, u] t fr) := set_at h
theorem set20 {w : World} {b : Nat} {a0 a1 u : Value} {t : TypeId} {fr : Nat × Nat} (h : w.heap[b]? = some (.cells #[a0, a1] t fr)) : (w.setCell ⟨b, 0, none⟩ u).heap[b]? = some (.cells #[u, a1] t fr) := set_at h
theorem set_ne {w : World} {b b' o : Nat} {u : Value} {x : Obj} (h : w.heap[b']? = some x) (hne : b' ≠ b) : (w.setCell ⟨b, o, none⟩ u).heap[b']? = some x := (Below.heap_setCell _ _ _ _ hne).trans h
theorem Cl.set_ne {w : World} {b o b' o' : Nat} {u v v0 : Value} (h : Cl w b o u) (h0 : Cl w b' o' v0) (hne : u ≠ v0) : Cl (w.setCell ⟨b', o', none⟩ v) b o u := by
  refine h.set_other ?_
  by_cases hb : b = b'
  · right
    intro ho
    subst hb; subst ho
    have := h.1.symm.trans h0.1
    exact hne (Option.some.inj this)
  · exact .inl hb
theorem RStr.set_ne {w : World} {lo hi n b' o' : Nat} {A : Option Addr} {xs : List Str} {v v0 : Value} (h : RH strE w lo hi A n xs) (h0 : Cl w b' o' v0) (hv0 : ∀ s, v0 ≠ .string s) :
    RH strE (w.setCell ⟨b', o', none⟩ v) lo hi A n xs :=
  ⟨h.1, fun hn => by
    obtain ⟨b, off, e, h1, h2, hc⟩ := h.2 hn
    exact ⟨b, off, e, h1, h2, fun k hk => Cl.set_ne (hc k hk) h0 (Ne.symm (hv0 _))⟩⟩

/-- A step at index j is written: its list. -/
theorem RStep.setAfter {w : World} {lo b off n j m d : Nat} {B : Option Addr} {ss : List Step} {ys : List Str} (h : RStep w lo (some ⟨b, off, none⟩) n ss) (hj : j < n) (hs : RStr w lo B m ys) :
    RStep (w.setCell ⟨b, off + j * 3 + 1, none⟩ (.slice B m d)) lo (some ⟨b, off, none⟩) n (ss.set j { nth ss j with after := ys }) := by
  refine ⟨by rw [List.length_set]; exact h.1, fun hn => ?_⟩
  obtain ⟨b', off', e, h1, h2, hc⟩ := h.2 hn
  injection e with e; injection e with e1 e2
  subst e1; subst e2
  refine ⟨b, off, rfl, h1, by simpa using h2, fun k hk => ?_⟩
  obtain ⟨_, ⟨A0, n0, c0, p2, _⟩, _⟩ := hc j hj
  obtain ⟨c1, ⟨A', n', c', c2, c3⟩, c4⟩ := hc k hk
  have hsz : (w.setCell ⟨b, off + j * 3 + 1, none⟩ (.slice B m d)).heap.size = w.heap.size := by simp
  rw [nth_set (by rw [h.1]; exact hj), hsz]
  by_cases hkj : k = j
  · subst hkj
    rw [if_pos rfl]
    exact ⟨c1.set_other (.inr (by show off + k * 3 ≠ _; omega)), ⟨B, m, d, c2.set_same, RStr.set_ne hs p2 (fun s e => by cases e)⟩, c4.set_other (.inr (by show off + k * 3 + 2 ≠ _; omega))⟩
  · rw [if_neg hkj]
    exact ⟨c1.set_other (.inr (by show off + k * 3 ≠ _; omega)), ⟨A', n', c', c2.set_other (.inr (by show off + k * 3 + 1 ≠ _; omega)), RStr.set_ne c3 p2 (fun s e => by cases e)⟩, c4.set_other (.inr (by show off + k * 3 + 2 ≠ _; omega))⟩
/-- A step at index j is written: whether it can be undone. -/
theorem RStep.setUndo {w : World} {lo b off n j : Nat} {ss : List Step} (h : RStep w lo (some ⟨b, off, none⟩) n ss) (hj : j < n) (u : Bool) :
    RStep (w.setCell ⟨b, off + j * 3 + 2, none⟩ (.bool u)) lo (some ⟨b, off, none⟩) n (ss.set j { nth ss j with undo := u }) := by
  refine ⟨by rw [List.length_set]; exact h.1, fun hn => ?_⟩
  obtain ⟨b', off', e, h1, h2, hc⟩ := h.2 hn
  injection e with e; injection e with e1 e2
  subst e1; subst e2
  refine ⟨b, off, rfl, h1, by simpa using h2, fun k hk => ?_⟩
  obtain ⟨_, _, p2⟩ := hc j hj
  obtain ⟨c1, ⟨A', n', c', c2, c3⟩, c4⟩ := hc k hk
  have hsz : (w.setCell ⟨b, off + j * 3 + 2, none⟩ (.bool u)).heap.size = w.heap.size := by simp
  rw [nth_set (by rw [h.1]; exact hj), hsz]
  by_cases hkj : k = j
  · subst hkj
    rw [if_pos rfl]
    exact ⟨c1.set_other (.inr (by show off + k * 3 ≠ _; omega)), ⟨A', n', c', c2.set_other (.inr (by show off + k * 3 + 1 ≠ _; omega)), RStr.set_ne c3 p2 (fun s e => by cases e)⟩, c4.set_same⟩
  · rw [if_neg hkj]
    exact ⟨c1.set_other (.inr (by show off + k * 3 ≠ _; omega)), ⟨A', n', c', c2.set_other (.inr (by show off + k * 3 + 1 ≠ _; omega)), RStr.set_ne c3 p2 (fun s e => by cases e)⟩, c4.set_other (.inr (by show off + k * 3 + 2 ≠ _; omega))⟩

/-- A cell below is written. -/
theorem RL.setLow {α : Type} [Inhabited α] {E : Elem α} {w : World} {lo n b o : Nat} {A : Option Addr} {xs : List α} {u : Value} (h : RL E w lo A n xs) (hb : b < lo) : RL E (w.setCell ⟨b, o, none⟩ u) lo A n xs :=
  (h.low.same (w' := w.setCell ⟨b, o, none⟩ u) ⟨fun i h1 _ => Below.heap_setCell w ⟨b, o, none⟩ u i (by intro e; simp at e; omega)⟩).up (by simp)

/-- A list of strings in a block of strings. -/
def SStr (w : World) (base : Nat) (A : Option Addr) (n : Nat) (xs : List Str) : Prop :=
  xs.length = n ∧ (0 < n → ∃ b cs, A = some ⟨b, 0, none⟩ ∧ base ≤ b ∧ w.heap[b]? = some (.cells cs 9 (0, 0)) ∧ ∀ j, j < n → cs[j]? = some (.string (nth xs j)))
theorem SStr.kept {w w' : World} {base n : Nat} {A : Option Addr} {xs : List Str} (h : SStr w base A n xs) (hk : ∀ b cs, base ≤ b → w.heap[b]? = some (.cells cs 9 (0, 0)) → w'.heap[b]? = w.heap[b]?) : SStr w' base A n xs :=
  ⟨h.1, fun hn => by
    obtain ⟨b, cs, e, h1, h2, h3⟩ := h.2 hn
    exact ⟨b, cs, e, h1, (hk b cs h1 h2).trans h2, h3⟩⟩
theorem SStr.on {w w' : World} {base n g : Nat} {A : Option Addr} {xs : List Str} (h : SStr w base A n xs) (ho : On g w w') (hg : g < base) : SStr w' base A n xs :=
  h.kept fun b cs hb hc => ho.block b (heap_lt hc) (by intro e; injection e; omega)
theorem SStr.below {w w' : World} {base n : Nat} {A : Option Addr} {xs : List Str} (h : SStr w base A n xs) (hb : Below w.heap.size w w') : SStr w' base A n xs :=
  h.kept fun b _ _ hc => hb.block b (heap_lt hc)
theorem SStr.mono {w : World} {base base' n : Nat} {A : Option Addr} {xs : List Str} (h : SStr w base A n xs) (hb : base' ≤ base) : SStr w base' A n xs :=
  ⟨h.1, fun hn => by
    obtain ⟨b, cs, e, h1, h2, h3⟩ := h.2 hn
    exact ⟨b, cs, e, by omega, h2, h3⟩⟩
theorem SStr.hat {w : World} {base n : Nat} {A : Option Addr} {xs : List Str} (h : SStr w base A n xs) : RStr w base A n xs :=
  ⟨h.1, fun hn => by
    obtain ⟨b, cs, e, h1, h2, h3⟩ := h.2 hn
    refine ⟨b, 0, e, h1, heap_lt h2, fun k hk => ?_⟩
    have := blk_cl h2 (h3 k hk)
    simpa [strE] using this⟩
theorem own_sstr {w : World} {base : Nat} {v : Value} {n : Nat} {ys : List Str} (h : w.ownsRow base 9 1 v n (ys.map Value.string)) : ∃ A c, v = .slice A n c ∧ SStr w base A n ys := by
  have hl : ys.length = n := by have := h.1; simpa using this
  have hcs := fun g hg => h.cells (g := g) hg
  rcases h.2 with ⟨rfl, h0⟩ | ⟨g, cap, cur, rfl, hb, hg, hnc, hcm, hcs', ht⟩
  · exact ⟨none, 0, by have : n = 0 := by omega
                       subst this; rfl, hl, fun hn => absurd hn (by omega)⟩
  · refine ⟨_, _, rfl, hl, fun _ => ⟨g, cur, rfl, hb, hg, fun j hj => ?_⟩⟩
    have h3 := hcs g rfl j (.string (nth ys j)) (by rw [List.getElem?_map, List.getElem?_eq_getElem (by omega), nth_eq (by omega)]; rfl)
    have e : (⟨g, 0, none⟩ : Addr).add j = ⟨g, j, none⟩ := by unfold Addr.add; split <;> simp_all
    rw [e] at h3
    have h4 : w.cell? ⟨g, j, none⟩ = cur[j]? := by unfold World.cell?; rw [hg]; rfl
    rw [h4] at h3
    exact h3

def pcells (p : Step × Value) : List Value := [.string p.1.name, p.2, .bool p.1.undo]
theorem pcells_len (p : Step × Value) : (pcells p).length = 3 := rfl
/-- A row of steps of the call's own, their lists too. -/
def SRow (w : World) (base : Nat) (v : Value) (n : Nat) (ss : List Step) : Prop :=
  ∃ ps : List (Step × Value), ps.map (·.1) = ss ∧ w.ownsRow base 35 3 v n (ps.flatMap pcells) ∧ ∀ p ∈ ps, ∃ A m c, p.2 = .slice A m c ∧ SStr w base A m p.1.after
theorem SRow.len {w : World} {base n : Nat} {v : Value} {ss : List Step} (h : SRow w base v n ss) : ss.length = n := by
  obtain ⟨ps, rfl, h1, _⟩ := h
  have := h1.1
  rw [flat_len pcells_len] at this
  simp; omega
theorem SRow.kept {w w' : World} {base n : Nat} {v : Value} {ss : List Step} (h : SRow w base v n ss) (hk : ∀ b cs t, base ≤ b → w.heap[b]? = some (.cells cs t (0, 0)) → t = 9 ∨ t = 35 → w'.heap[b]? = w.heap[b]?) : SRow w' base v n ss := by
  obtain ⟨ps, e, h1, h2⟩ := h
  refine ⟨ps, e, ?_, fun p hp => ?_⟩
  · refine ⟨h1.1, ?_⟩
    rcases h1.2 with hn | ⟨g, cap, cur, hv, hb, hg, hr⟩
    · exact .inl hn
    · exact .inr ⟨g, cap, cur, hv, hb, (hk g cur _ hb hg (.inr rfl)).trans hg, hr⟩
  · obtain ⟨A, m, c, e2, h3⟩ := h2 p hp
    exact ⟨A, m, c, e2, h3.kept fun b cs hb hc => hk b cs _ hb hc (.inl rfl)⟩
theorem SRow.on {w w' : World} {base n g : Nat} {v : Value} {ss : List Step} (h : SRow w base v n ss) (ho : On g w w') (hg : g < base) : SRow w' base v n ss :=
  h.kept fun b cs _ hb hc _ => ho.block b (heap_lt hc) (by intro e; injection e; omega)
theorem SRow.below {w w' : World} {base n : Nat} {v : Value} {ss : List Step} (h : SRow w base v n ss) (hb : Below w.heap.size w w') : SRow w' base v n ss :=
  h.kept fun b _ _ _ hc _ => hb.block b (heap_lt hc)
theorem SRow.set {w : World} {base n b o : Nat} {v u : Value} {ss : List Step} {cs : Array Value} {t : TypeId} (h : SRow w base v n ss) (hb : w.heap[b]? = some (.cells cs t (0, 0))) (h1 : t ≠ 9) (h2 : t ≠ 35) :
    SRow (w.setCell ⟨b, o, none⟩ u) base v n ss :=
  h.kept fun b' cs' t' _ hc ht => Below.heap_setCell w ⟨b, o, none⟩ u b' (by
    intro e
    subst e
    rw [hc] at hb
    have := Option.some.inj hb
    injection this with _ e2
    rcases ht with ht | ht <;> subst ht
    · exact h1 e2.symm
    · exact h2 e2.symm)
theorem SRow.made {w : World} {base b : Nat} (hb : base ≤ w.heap.size) (e : b = w.heap.size) : SRow (w.alloc (.cells #[] 35)) base (.slice (some ⟨b, 0, none⟩) 0 0) 0 [] := by
  subst e
  exact ⟨[], rfl, World.ownsRow_made w #[] 0 hb (Nat.zero_le _) rfl, fun p hp => by cases hp⟩
theorem SRow.lt {w : World} {base n b : Nat} {A : Option Addr} {c : Nat} {ss : List Step} (h : SRow w base (.slice A n c) n ss) (hA : (Value.slice A n c).ownBlock = some b) : base ≤ b ∧ b < w.heap.size := by
  obtain ⟨ps, _, h1, _⟩ := h
  exact h1.lt b hA
theorem SRow.ne {w : World} {base n b : Nat} {v : Value} {ss : List Step} {cs : Array Value} {t : TypeId} {fr : Nat × Nat} (h : SRow w base v n ss) (hb : w.heap[b]? = some (.cells cs t fr)) (ht : 35 ≠ t) : v.ownBlock ≠ some b := by
  obtain ⟨ps, _, h1, _⟩ := h
  exact row_ne h1 hb ht
theorem SRow.hat {w : World} {base n : Nat} {v : Value} {ss : List Step} (h : SRow w base v n ss) : ∃ A c, v = .slice A n c ∧ RStep w base A n ss := by
  have hl := h.len
  obtain ⟨ps, rfl, h1, h2⟩ := h
  obtain ⟨A, c, hv, hf⟩ := own_form h1
  refine ⟨A, c, hv, hl, fun hn => ?_⟩
  obtain ⟨b, e1, b1, b2, hc⟩ := hf hn
  rw [List.length_map] at hl
  refine ⟨b, 0, e1, b1, b2, fun k hk => ?_⟩
  have h3 : ∀ i u, i < 3 → (pcells (ps[k]'(by omega)))[i]? = some u → Cl w b (0 + k * 3 + i) u := fun i u hi hu => by
    have e2 := flat_at (α := Step × Value) (f := pcells) pcells_len ps k i (by omega) hi
    rw [nth_eq (by omega)] at e2
    have := hc (k * 3 + i) u (by rw [e2]; exact hu)
    rwa [Nat.zero_add]
  obtain ⟨A', m, c', e2, h4⟩ := h2 (ps[k]'(by omega)) (List.getElem_mem _)
  have e3 : nth (ps.map (·.1)) k = (ps[k]'(by omega)).1 := by rw [nth_eq (by rw [List.length_map]; omega)]; simp
  rw [e3]
  exact ⟨h3 0 _ (by omega) rfl, ⟨A', m, c', by have := h3 1 _ (by omega) rfl; rw [e2] at this; exact this, h4.hat⟩, h3 2 _ (by omega) rfl⟩

theorem info_step : (Tryz.prog.info? 35).map (fun i => (i.zero, i.size, i.bytes)) = some (some (.agg #[.string ⟨#[]⟩, .slice none 0 0, .bool false]), 3, 48) := by kernel_rfl
/-- 'out = append(out, s)', at one operation. -/
theorem wapp_step {w : World} {o : Oper} {a : Act} {K : Act → World → Prop} {Q : Exit → Act → World → Prop} (base : Nat) (v : Value) (n : Nat) (ss : List Step) (b : Nat) (s : Step) (A : Option Addr) (m c : Nat) (hown : SRow w base v n ss) (hs0 : SStr w base A m s.after)
    (l x : Operand) (ho : o.op = .call { callee := .builtin .append, args := #[l, x], argTypes := #[36, 36] })
    (hs : a.eval l = v) (hx : a.eval x = .slice (some ⟨b, 0, none⟩) 1 1) (hb : w.heap[b]? = some (.cells #[.string s.name, .slice A m c, .bool s.undo] 35 (0, 0))) (hn : n ≤ 1048576) (hbase : base ≤ w.heap.size)
    (h : ∀ v' w', SRow w' base v' (n + 1) (ss ++ [s]) → w.grownBy w' v.ownBlock → (v'.ownBlock = v.ownBlock ∨ v'.ownBlock = some w.heap.size) → K (a.put o.dst v') w') : o.wp Tryz.prog a w K Q := by
  have hN : ∀ (b : Nat) (cs : Array Value), w.heap[b]? = some (Obj.cells cs 9 (0, 0)) → v.ownBlock ≠ some b := fun b cs hc => hown.ne hc (by decide)
  obtain ⟨ps, rfl, h1, h2⟩ := hown
  refine wapp 36 35 3 48 _ Tryz.underlying36 info_step rfl (by omega) (by omega) base v n _ (pcells (s, .slice A m c)) b h1 l x ho hs hx hb rfl ?_ hn hbase ?_
  · intro u hu; simp [pcells] at hu; rcases hu with rfl | rfl | rfl <;> rfl
  · intro v' w' h3 h4 h5
    have hk : ∀ b cs, base ≤ b → w.heap[b]? = some (.cells cs 9 (0, 0)) → w'.heap[b]? = w.heap[b]? := fun b cs _ hc => h4.block b (heap_lt hc) (Ne.symm (hN b cs hc))
    refine h v' w' ⟨ps ++ [(s, .slice A m c)], by simp, by rw [List.flatMap_append]; simpa using h3, fun p hp => ?_⟩ h4 h5
    rcases List.mem_append.1 hp with hp | hp
    · obtain ⟨A', m', c', e, h6⟩ := h2 p hp
      exact ⟨A', m', c', e, h6.kept hk⟩
    · rw [List.mem_singleton] at hp
      subst hp
      exact ⟨A, m, c, rfl, hs0.kept hk⟩
/-- The same ahead of what follows. -/
theorem app_stepW {w : World} {ops : Array Oper} {rest : List Oper} {o : Oper} {a : Act} {Q : Exit → Act → World → Prop} (base : Nat) (v : Value) (n : Nat) (ss : List Step) (b : Nat) (s : Step) (A : Option Addr) (m c : Nat) (hown : SRow w base v n ss) (hs0 : SStr w base A m s.after)
    (hgd : o.guard = none) (l x : Operand) (ho : o.op = .call { callee := .builtin .append, args := #[l, x], argTypes := #[36, 36] })
    (hs : a.eval l = v) (hx : a.eval x = .slice (some ⟨b, 0, none⟩) 1 1) (hb : w.heap[b]? = some (.cells #[.string s.name, .slice A m c, .bool s.undo] 35 (0, 0))) (hn : n ≤ 1048576) (hbase : base ≤ w.heap.size)
    (h : ∀ v' w', SRow w' base v' (n + 1) (ss ++ [s]) → w.grownBy w' v.ownBlock → (v'.ownBlock = v.ownBlock ∨ v'.ownBlock = some w.heap.size) → wpList Tryz.prog ops Q rest (a.put o.dst v') w') : wpList Tryz.prog ops Q (o :: rest) a w :=
  wpList_plain hgd fun _ hK => wapp_step base v n ss b s A m c hown hs0 l x ho hs hx hb hn hbase fun v' w' h1 h2 h3 => hK _ _ (h v' w' h1 h2 h3)

end Go.Proofs.YthdfefgianokgaaGreatDoor

/- Steps whose lists have room: length at most capacity. -/
namespace Go.Proofs.YthdfefgianokgaaGreatDoor
open Go.RowKit

/-- Each step's list has a length of at most its capacity. -/
def CapS (w : World) (A : Option Addr) (n : Nat) : Prop :=
  ∀ b off, A = some ⟨b, off, none⟩ → ∀ k, k < n → ∃ A' n' c', w.cell? ⟨b, off + k * 3 + 1, none⟩ = some (.slice A' n' c') ∧ n' ≤ c'
theorem cell_lt {w : World} {p : Addr} {v : Value} (h : w.cell? p = some v) : p.block < w.heap.size := by
  rcases Nat.lt_or_ge p.block w.heap.size with h1 | h1
  · exact h1
  · unfold World.cell? at h
    rw [Array.getElem?_eq_none h1] at h
    cases h
theorem CapS.zero {w : World} {A : Option Addr} : CapS w A 0 := fun _ _ _ _ hk => absurd hk (by omega)
theorem CapS.cells {w w' : World} {A : Option Addr} {n : Nat} (h : CapS w A n) (hk : ∀ b off j, A = some ⟨b, off, none⟩ → b < w.heap.size → w'.cell? ⟨b, j, none⟩ = w.cell? ⟨b, j, none⟩) : CapS w' A n := fun b off e k hkn => by
  obtain ⟨A', n', c', h1, h2⟩ := h b off e k hkn
  exact ⟨A', n', c', (hk b off _ e (cell_lt h1)).trans h1, h2⟩
theorem CapS.below {w w' : World} {A : Option Addr} {n : Nat} (h : CapS w A n) (hb : Below w.heap.size w w') : CapS w' A n :=
  h.cells fun b _ j _ hlt => hb.cell (p := ⟨b, j, none⟩) hlt
theorem CapS.alloc {w : World} {A : Option Addr} {n : Nat} (h : CapS w A n) (o : Obj) : CapS (w.alloc o) A n := h.below ((Below.refl _ _).alloc (Nat.le_refl _) o)
theorem CapS.drew {w : World} {A : Option Addr} {n : Nat} (h : CapS w A n) : CapS w.drew A n := h
theorem CapS.on {w w' : World} {b off n g : Nat} (h : CapS w (some ⟨b, off, none⟩) n) (ho : On g w w') (hne : b ≠ g) : CapS w' (some ⟨b, off, none⟩) n :=
  h.cells fun b' off' j e hlt => by
    injection e with e; injection e with e1 e2
    subst e1
    exact ho.cell hlt hne
theorem CapS.setNe {w : World} {b off n b' o : Nat} {u : Value} (h : CapS w (some ⟨b, off, none⟩) n) (hne : b ≠ b') : CapS (w.setCell ⟨b', o, none⟩ u) (some ⟨b, off, none⟩) n :=
  h.cells fun b1 off1 j e _ => by
    injection e with e; injection e with e1 e2
    subst e1
    exact World.cell?_setCell_other w ⟨b', o, none⟩ ⟨b, j, none⟩ u (fun e => by injection e with e1 _; omega)
/-- One step more is written. -/
theorem CapS.put {w : World} {b j m d : Nat} {B : Option Addr} {s u v0 : Value} (h : CapS w (some ⟨b, 0, none⟩) j) (hc : w.cell? ⟨b, j * 3 + 1, none⟩ = some v0) (hmd : m ≤ d) :
    CapS (((w.setCell ⟨b, j * 3, none⟩ s).setCell ⟨b, j * 3 + 1, none⟩ (.slice B m d)).setCell ⟨b, j * 3 + 2, none⟩ u) (some ⟨b, 0, none⟩) (j + 1) := fun b1 off e k hk => by
  injection e with e; injection e with e1 e2
  subst e1; subst e2
  rw [World.cell?_setCell_other _ _ _ _ (fun e => by injection e; omega)]
  by_cases hkj : k = j
  · subst hkj
    rw [Nat.zero_add]
    exact ⟨B, m, d, World.cell?_setCell_same _ _ _ ((World.cell?_setCell_other _ _ _ _ (fun e => by injection e; omega)).trans hc), hmd⟩
  · rw [World.cell?_setCell_other _ _ _ _ (fun e => by injection e; omega), World.cell?_setCell_other _ _ _ _ (fun e => by injection e; omega)]
    exact h b 0 rfl k (by omega)
/-- What a step's cell says. -/
theorem CapS.le {w : World} {b off n k n' c' : Nat} {A' : Option Addr} (h : CapS w (some ⟨b, off, none⟩) n) (hk : k < n) (hc : w.cell? ⟨b, off + k * 3 + 1, none⟩ = some (.slice A' n' c')) : n' ≤ c' := by
  obtain ⟨A1, n1, c1, h1, h2⟩ := h b off rfl k hk
  rw [hc] at h1
  injection h1 with h1; injection h1 with _ e1 e2
  subst e1; subst e2
  exact h2

/-- A row of steps of the call's own, their lists too. -/
def SRowC (w : World) (base : Nat) (v : Value) (n : Nat) (ss : List Step) : Prop :=
  ∃ ps : List (Step × Value), ps.map (·.1) = ss ∧ w.ownsRow base 35 3 v n (ps.flatMap pcells) ∧ ∀ p ∈ ps, ∃ A m c, p.2 = .slice A m c ∧ SStr w base A m p.1.after ∧ m ≤ c
theorem SRowC.len {w : World} {base n : Nat} {v : Value} {ss : List Step} (h : SRowC w base v n ss) : ss.length = n := by
  obtain ⟨ps, rfl, h1, _⟩ := h
  have := h1.1
  rw [flat_len pcells_len] at this
  simp; omega
theorem SRowC.kept {w w' : World} {base n : Nat} {v : Value} {ss : List Step} (h : SRowC w base v n ss) (hk : ∀ b cs t, base ≤ b → w.heap[b]? = some (.cells cs t (0, 0)) → t = 9 ∨ t = 35 → w'.heap[b]? = w.heap[b]?) : SRowC w' base v n ss := by
  obtain ⟨ps, e, h1, h2⟩ := h
  refine ⟨ps, e, ?_, fun p hp => ?_⟩
  · refine ⟨h1.1, ?_⟩
    rcases h1.2 with hn | ⟨g, cap, cur, hv, hb, hg, hr⟩
    · exact .inl hn
    · exact .inr ⟨g, cap, cur, hv, hb, (hk g cur _ hb hg (.inr rfl)).trans hg, hr⟩
  · obtain ⟨A, m, c, e2, h3, h4⟩ := h2 p hp
    exact ⟨A, m, c, e2, h3.kept fun b cs hb hc => hk b cs _ hb hc (.inl rfl), h4⟩
theorem SRowC.on {w w' : World} {base n g : Nat} {v : Value} {ss : List Step} (h : SRowC w base v n ss) (ho : On g w w') (hg : g < base) : SRowC w' base v n ss :=
  h.kept fun b cs _ hb hc _ => ho.block b (heap_lt hc) (by intro e; injection e; omega)
theorem SRowC.below {w w' : World} {base n : Nat} {v : Value} {ss : List Step} (h : SRowC w base v n ss) (hb : Below w.heap.size w w') : SRowC w' base v n ss :=
  h.kept fun b _ _ _ hc _ => hb.block b (heap_lt hc)
theorem SRowC.set {w : World} {base n b o : Nat} {v u : Value} {ss : List Step} {cs : Array Value} {t : TypeId} (h : SRowC w base v n ss) (hb : w.heap[b]? = some (.cells cs t (0, 0))) (h1 : t ≠ 9) (h2 : t ≠ 35) :
    SRowC (w.setCell ⟨b, o, none⟩ u) base v n ss :=
  h.kept fun b' cs' t' _ hc ht => Below.heap_setCell w ⟨b, o, none⟩ u b' (by
    intro e
    subst e
    rw [hc] at hb
    have := Option.some.inj hb
    injection this with _ e2
    rcases ht with ht | ht <;> subst ht
    · exact h1 e2.symm
    · exact h2 e2.symm)
theorem SRowC.made {w : World} {base b : Nat} (hb : base ≤ w.heap.size) (e : b = w.heap.size) : SRowC (w.alloc (.cells #[] 35)) base (.slice (some ⟨b, 0, none⟩) 0 0) 0 [] := by
  subst e
  exact ⟨[], rfl, World.ownsRow_made w #[] 0 hb (Nat.zero_le _) rfl, fun p hp => by cases hp⟩
theorem SRowC.lt {w : World} {base n b : Nat} {A : Option Addr} {c : Nat} {ss : List Step} (h : SRowC w base (.slice A n c) n ss) (hA : (Value.slice A n c).ownBlock = some b) : base ≤ b ∧ b < w.heap.size := by
  obtain ⟨ps, _, h1, _⟩ := h
  exact h1.lt b hA
theorem SRowC.ne {w : World} {base n b : Nat} {v : Value} {ss : List Step} {cs : Array Value} {t : TypeId} {fr : Nat × Nat} (h : SRowC w base v n ss) (hb : w.heap[b]? = some (.cells cs t fr)) (ht : 35 ≠ t) : v.ownBlock ≠ some b := by
  obtain ⟨ps, _, h1, _⟩ := h
  exact row_ne h1 hb ht
theorem SRowC.row {w : World} {base n : Nat} {v : Value} {ss : List Step} (h : SRowC w base v n ss) : SRow w base v n ss := by
  obtain ⟨ps, e, h1, h2⟩ := h
  refine ⟨ps, e, h1, fun p hp => ?_⟩
  obtain ⟨A, m, c, e2, h3, _⟩ := h2 p hp
  exact ⟨A, m, c, e2, h3⟩
theorem SRowC.hat {w : World} {base n : Nat} {v : Value} {ss : List Step} (h : SRowC w base v n ss) : ∃ A c, v = .slice A n c ∧ RStep w base A n ss := h.row.hat
theorem SRowC.mono {w : World} {base base' n : Nat} {v : Value} {ss : List Step} (h : SRowC w base v n ss) (hb : base' ≤ base) : SRowC w base' v n ss := by
  obtain ⟨ps, e, h1, h2⟩ := h
  refine ⟨ps, e, ⟨h1.1, h1.2.imp id fun ⟨g, cap, cur, e1, e2, e3⟩ => ⟨g, cap, cur, e1, Nat.le_trans hb e2, e3⟩⟩, fun p hp => ?_⟩
  obtain ⟨A, m, c, e2, h3, h4⟩ := h2 p hp
  exact ⟨A, m, c, e2, h3.mono hb, h4⟩
theorem SRowC.caps {w : World} {base n c : Nat} {A : Option Addr} {ss : List Step} (h : SRowC w base (.slice A n c) n ss) : CapS w A n := by
  have hl := h.len
  obtain ⟨ps, rfl, h1, h2⟩ := h
  obtain ⟨A0, c0, hv, hf⟩ := own_form h1
  injection hv with hv1 _ _
  subst hv1
  intro b off e k hk
  obtain ⟨b1, e1, _, _, hc⟩ := hf (by omega)
  rw [e] at e1
  injection e1 with e1; injection e1 with e1 e2
  subst e1; subst e2
  rw [List.length_map] at hl
  have e2 := flat_at (α := Step × Value) (f := pcells) pcells_len ps k 1 (by omega) (by omega)
  rw [nth_eq (by omega)] at e2
  have h3 := (hc (k * 3 + 1) _ (by rw [e2]; rfl)).1
  obtain ⟨A', m, c', e4, _, h5⟩ := h2 (ps[k]'(by omega)) (List.getElem_mem _)
  rw [e4] at h3
  exact ⟨A', m, c', by rw [Nat.zero_add]; exact h3, h5⟩
/-- 'out = append(out, s)', at one operation. -/
theorem wapp_stepC {w : World} {o : Oper} {a : Act} {K : Act → World → Prop} {Q : Exit → Act → World → Prop} (base : Nat) (v : Value) (n : Nat) (ss : List Step) (b : Nat) (s : Step) (A : Option Addr) (m c : Nat) (hown : SRowC w base v n ss) (hs0 : SStr w base A m s.after) (hmc : m ≤ c)
    (l x : Operand) (ho : o.op = .call { callee := .builtin .append, args := #[l, x], argTypes := #[36, 36] })
    (hs : a.eval l = v) (hx : a.eval x = .slice (some ⟨b, 0, none⟩) 1 1) (hb : w.heap[b]? = some (.cells #[.string s.name, .slice A m c, .bool s.undo] 35 (0, 0))) (hn : n ≤ 1048576) (hbase : base ≤ w.heap.size)
    (h : ∀ v' w', SRowC w' base v' (n + 1) (ss ++ [s]) → w.grownBy w' v.ownBlock → (v'.ownBlock = v.ownBlock ∨ v'.ownBlock = some w.heap.size) → K (a.put o.dst v') w') : o.wp Tryz.prog a w K Q := by
  have hN : ∀ (b : Nat) (cs : Array Value), w.heap[b]? = some (Obj.cells cs 9 (0, 0)) → v.ownBlock ≠ some b := fun b cs hc => hown.ne hc (by decide)
  obtain ⟨ps, rfl, h1, h2⟩ := hown
  refine wapp 36 35 3 48 _ Tryz.underlying36 info_step rfl (by omega) (by omega) base v n _ (pcells (s, .slice A m c)) b h1 l x ho hs hx hb rfl ?_ hn hbase ?_
  · intro u hu; simp [pcells] at hu; rcases hu with rfl | rfl | rfl <;> rfl
  · intro v' w' h3 h4 h5
    have hk : ∀ b cs, base ≤ b → w.heap[b]? = some (.cells cs 9 (0, 0)) → w'.heap[b]? = w.heap[b]? := fun b cs _ hc => h4.block b (heap_lt hc) (Ne.symm (hN b cs hc))
    refine h v' w' ⟨ps ++ [(s, .slice A m c)], by simp, by rw [List.flatMap_append]; simpa using h3, fun p hp => ?_⟩ h4 h5
    rcases List.mem_append.1 hp with hp | hp
    · obtain ⟨A', m', c', e, h6, h7⟩ := h2 p hp
      exact ⟨A', m', c', e, h6.kept hk, h7⟩
    · rw [List.mem_singleton] at hp
      subst hp
      exact ⟨A, m, c, rfl, hs0.kept hk, hmc⟩
/-- A row's length is at most its capacity. -/
theorem row_cap {w : World} {base n c : Nat} {e : TypeId} {size : Nat} {A : Option Addr} {cs : List Value} (h : w.ownsRow base e size (.slice A n c) n cs) : n ≤ c := by
  rcases h.2 with ⟨e1, e2⟩ | ⟨g, cap, cur, e1, hb, hg, hnc, hr⟩
  · omega
  · injection e1 with _ _ e3
    omega
end Go.Proofs.YthdfefgianokgaaGreatDoor

/- Drawing flows: some flow. -/
namespace Go.Proofs.YthdfefgianokgaaGreatDoor
open Go.RowKit

def nmF : Array Value := #[.string ⟨#[97]⟩, .string ⟨#[98]⟩, .string ⟨#[99]⟩, .string ⟨#[100]⟩, .string ⟨#[101]⟩, .string ⟨#[102]⟩]
/-- The head of the inner loop. -/
structure FlowJ (w2 : World) (g q b : Nat) (s : Str) (u : Bool) (wj : World) (m : Nat) (A : Option Addr) (c : Nat) (ys : List Str) : Prop where
  ok : okS ys
  row : wj.ownsRow w2.heap.size 9 1 (.slice A m c) m (ys.map Value.string)
  dr : Dr 60 w2 g q wj
  box : wj.heap[b]? = some (.cells #[.string s, .slice A m c, .bool u] 35 (0, 0))
theorem FlowJ.len {w2 : World} {g q b : Nat} {s : Str} {u : Bool} {wj : World} {m : Nat} {A : Option Addr} {c : Nat} {ys : List Str} (h : FlowJ w2 g q b s u wj m A c ys) : ys.length = m := by
  have := h.row.1; simpa using this

end Go.Proofs.YthdfefgianokgaaGreatDoor

/- Drawing a flow out of a code. -/
namespace Go.Proofs.YthdfefgianokgaaGreatDoor
open Go.RowKit

theorem RByte.below {w w' : World} {A : Option Addr} {n : Nat} (h : RByte w A n) (hb : Below w.heap.size w w') : RByte w' A n := fun h0 => by
  obtain ⟨b, off, e, h1, h2⟩ := h h0
  refine ⟨b, off, e, Nat.lt_of_lt_of_le h1 hb.size, fun k hk => ?_⟩
  obtain ⟨u, hu, hc⟩ := h2 k hk
  exact ⟨u, hu, (hb.cell (p := ⟨b, off + k, none⟩) h1).trans hc⟩
theorem RByte.alloc {w : World} {A : Option Addr} {n : Nat} (h : RByte w A n) (o : Obj) : RByte (w.alloc o) A n := h.below ((Below.refl _ _).alloc (Nat.le_refl _) o)

end Go.Proofs.YthdfefgianokgaaGreatDoor

/- Drawing names and steps: some name, some step. -/
namespace Go.Proofs.YthdfefgianokgaaGreatDoor
open Go.RowKit

/-- The head of the loop. -/
structure StepI (w : World) (g q F N : Nat) (s : Str) (u : Bool) (wr : World) (k n : Nat) (A : Option Addr) (c : Nat) (ys : List Str) : Prop where
  kn : n ≤ k
  ok : okS ys
  row : wr.ownsRow (w.heap.size + 1) 9 1 (.slice A n c) n (ys.map Value.string)
  dr : Dr 60 w g (q + 10 + k) wr
  res : wr.heap[w.heap.size]? = some (.cells #[.string ⟨#[]⟩, .slice none 0 0, .bool false] 35 (0, 0))
  box : wr.heap[F]? = some (.cells #[.string s, .slice A n c, .bool u] 35 (0, 0))
  nms : wr.heap[N]? = some (.cells nmF 9 (0, 0))
  nmo : (Value.slice A n c).ownBlock ≠ some N
  fw : w.heap.size < F
  nw : w.heap.size < N
theorem StepI.len {w : World} {g q F N : Nat} {s : Str} {u : Bool} {wr : World} {k n : Nat} {A : Option Addr} {c : Nat} {ys : List Str} (h : StepI w g q F N s u wr k n A c ys) : ys.length = n := by
  have := h.row.1; simpa using this

end Go.Proofs.YthdfefgianokgaaGreatDoor

/- Texts of steps: both. -/
namespace Go.Proofs.YthdfefgianokgaaGreatDoor
open Go.RowKit

/-- The first k names with commas between them. -/
def jnS (xs : List Str) : Nat → Str
  | 0 => ⟨#[]⟩
  | k + 1 => (if 0 < k then jnS xs k ++ ⟨#[44]⟩ else jnS xs k) ++ nth xs k
def namesS (xs : List Str) : Str := if xs.length = 0 then ⟨#[45]⟩ else jnS xs xs.length
def stepS (s : Step) : Str := if s.undo then s.name ++ ⟨#[58]⟩ ++ namesS s.after else (s.name ++ ⟨#[58]⟩ ++ namesS s.after) ++ ⟨#[33]⟩
def textS (s : Step) : Str := if stepB s then stepS s else ⟨#[]⟩

theorem bl_app (a b : Str) : (a ++ b).data.toList = a.data.toList ++ b.data.toList := by simp
theorem bsz_app (a b : Str) : (a ++ b).size = a.size + b.size := by simp
theorem join_snoc (l : List (List UInt8)) (z sep : List UInt8) (h : l ≠ []) : Lib.join (l ++ [z]) sep = Lib.join l sep ++ sep ++ z := by
  cases l with
  | nil => exact absurd rfl h
  | cons x r =>
    rw [List.cons_append, Lib.join_cons, Lib.join_cons]
    simp [Lib.joinTail]
theorem jnS_list {xs : List Str} : ∀ k, k < xs.length → (jnS xs (k + 1)).data.toList = Lib.join ((xs.take (k + 1)).map (·.data.toList)) [44]
  | 0, h => by
    rw [take_nth h]
    show (jnS xs 0 ++ nth xs 0).data.toList = _
    rw [bl_app]
    simp [Lib.join_one, jnS]
  | k + 1, h => by
    rw [take_nth h, List.map_append]
    show ((if 0 < k + 1 then jnS xs (k + 1) ++ ⟨#[44]⟩ else jnS xs (k + 1)) ++ nth xs (k + 1)).data.toList = _
    rw [if_pos (by omega), bl_app, bl_app, jnS_list k (by omega)]
    have hne : (xs.take (k + 1)).map (·.data.toList) ≠ [] := by
      intro e
      have h2 : ((xs.take (k + 1)).map (·.data.toList)).length = 0 := by rw [e]; rfl
      rw [List.length_map, List.length_take] at h2
      omega
    show _ = Lib.join ((xs.take (k + 1)).map (·.data.toList) ++ [(nth xs (k + 1)).data.toList]) [44]
    rw [join_snoc _ _ _ hne]
theorem jnS_join {xs : List Str} (h : 0 < xs.length) : (⟨(Lib.join (xs.map (·.data.toList)) [44]).toArray⟩ : Str) = jnS xs xs.length := by
  have := jnS_list (xs := xs) (xs.length - 1) (by omega)
  rw [show xs.length - 1 + 1 = xs.length by omega, List.take_length] at this
  rw [← this]
theorem jnS_size {xs : List Str} {m : Nat} (h : ∀ j, j < xs.length → (nth xs j).size ≤ m) : ∀ k, k ≤ xs.length → (jnS xs k).size ≤ k * (m + 1)
  | 0, _ => Nat.zero_le _
  | k + 1, hk => by
    have h1 := jnS_size h k (by omega)
    have h2 := h k (by omega)
    show ((if 0 < k then jnS xs k ++ ⟨#[44]⟩ else jnS xs k) ++ nth xs k).size ≤ _
    rw [bsz_app, Nat.succ_mul]
    have h3 : (⟨#[44]⟩ : Str).size = 1 := rfl
    split
    · rw [bsz_app]; omega
    · omega

set_option maxRecDepth 100000 in
theorem namesTextI_any (A : Option Addr) (n c : Nat) (xs : List Str) (lo : Nat) (w : World) (hr : RStr w lo A n xs) (hc : n ≤ c) (hn : n ≤ 1000) (hs : ∀ j, j < n → (nth xs j).size ≤ 1000) :
    Calls Tryz.prog 37 #[.slice A n c] w fun e w' => e = .returned (.string (namesS xs)) ∧ Below w.heap.size w w' := by
  have HR := Lib.hid hr; clear hr
  have HS := Lib.hid hs; clear hs
  by_cases h0 : n < 1
  · have hz : ((n : Int) == 0) = true := by rw [beq_iff_eq]; omega
    have HE := Lib.hid (show namesS xs = ⟨#[45]⟩ by unfold namesS; rw [if_pos (by rw [HR.out.1]; omega)])
    go_enter Tryz.func37, Tryz.ntmps37
    go_wp2_with fail
    go_ret
    exact ⟨ret_s HE.out.symm, Below.refl _ _⟩
  · have hz : ((n : Int) == 0) = false := by rw [beq_eq_false_iff_ne]; omega
    obtain ⟨b, off, rfl, ⟨_, hb⟩, hcs⟩ := RStr.at_ HR.out (k := 0) (by omega)
    have hl := HR.out.1
    subst hl
    have HE := Lib.hid (show namesS xs = jnS xs xs.length by unfold namesS; rw [if_neg (by omega)])
    have HJ := Lib.hid (jnS_join (xs := xs) (by omega))
    have HCS : Hid (∀ (j : Nat) x, xs[j]? = some x → w.cell? ⟨b, off + j, none⟩ = some (.string x)) := fun j x hx => by
      obtain ⟨hj, e⟩ := List.getElem?_eq_some_iff.1 hx
      have := (hcs j hj).1
      rw [nth_eq hj, e] at this
      exact this
    clear hcs
    have HLEN : Hid ((Lib.join (xs.map (·.data.toList)) [44]).length ≤ 140737488355328) := by
      have h1 := jnS_size (xs := xs) (m := 1000) HS.out xs.length (Nat.le_refl _)
      rw [← HJ.out] at h1
      have h2 : xs.length * 1001 ≤ 1000 * 1001 := Nat.mul_le_mul_right _ hn
      have h3 : (⟨(Lib.join (xs.map (·.data.toList)) [44]).toArray⟩ : Str).size = (Lib.join (xs.map (·.data.toList)) [44]).length := by simp [ByteArray.size]
      rw [h3] at h1
      show _ ≤ 140737488355328
      omega
    go_enter Tryz.func37, Tryz.ntmps37
    go_wp2_with fail
    refine (Tryz.strings_Join b off c xs ⟨#[44]⟩ _ HCS.out hb (by omega) hc HLEN.out).mono ?_
    rintro e w1 ⟨rfl, hb1⟩
    have HB1 := Lib.hid hb1; clear hb1
    rw [show (Lib.join (xs.map (·.data.toList)) (⟨#[44]⟩ : ByteArray).data.toList) = Lib.join (xs.map (·.data.toList)) [44] from rfl, HJ.out]
    go_wp2_with fail
    go_ret
    exact ⟨ret_s HE.out.symm, HB1.out⟩

set_option maxRecDepth 100000 in
theorem l41Names_any (A : Option Addr) (n c : Nat) (xs : List Str) (lo : Nat) (w : World) (hr : RStr w lo A n xs) (hn : n ≤ 1000) (hs : ∀ j, j < n → (nth xs j).size ≤ 1000) :
    Calls Tryz.prog 44 #[.slice A n c] w fun e w' => e = .returned (.string (namesS xs)) ∧ w = w' := by
  have HR := Lib.hid hr; clear hr
  have HS := Lib.hid hs; clear hs
  by_cases h0 : n < 1
  · have hz : ((n : Int) == 0) = true := by rw [beq_iff_eq]; omega
    have HE := Lib.hid (show namesS xs = ⟨#[45]⟩ by unfold namesS; rw [if_pos (by rw [HR.out.1]; omega)])
    go_enter Tryz.func44, Tryz.ntmps44
    go_wp2_with fail
    go_ret
    exact ⟨ret_s HE.out.symm, rfl⟩
  · have hz : ((n : Int) == 0) = false := by rw [beq_eq_false_iff_ne]; omega
    have HE := Lib.hid (show namesS xs = jnS xs n by unfold namesS; rw [if_neg (by rw [HR.out.1]; omega), HR.out.1])
    go_enter Tryz.func44, Tryz.ntmps44
    go_wp2_with fail
    go_loop [3, 4] (fun o i => ∃ k : Nat, k ≤ n ∧ i = .int .i64 k ∧ o = .string (jnS xs k)) (fun _ i => n - (intOf i).toNat)
    case atStart => exact ⟨0, Nat.zero_le _, rfl, rfl⟩
    case round =>
      obtain ⟨k, hk, rfl, rfl⟩ := hrel
      by_cases hlt : k < n
      · obtain ⟨b, off, rfl, _, hcs⟩ := RStr.at_ HR.out hlt
        have c1 := (hcs k hlt).1
        clear hcs
        have q1 : (jnS xs k).size ≤ 1001000 := by
          have h1 := jnS_size (xs := xs) (m := 1000) (fun j hj => HS.out j (by rw [← HR.out.1]; exact hj)) k (by rw [HR.out.1]; omega)
          have h2 : k * 1001 ≤ 1000 * 1001 := Nat.mul_le_mul_right _ (by omega)
          omega
        have q2 := HS.out k hlt
        have HJ := Lib.hid (show jnS xs (k + 1) = (if 0 < k then jnS xs k ++ ⟨#[44]⟩ else jnS xs k) ++ nth xs k from rfl)
        by_cases hk0 : 0 < k
        · have hki : decide ((0 : Int) < (k : Int)) = true := by simp; omega
          have hkn : decide (0 < k) = true := by simp; omega
          go_wp2_with fail
          go_round
          case rel => exact ⟨k + 1, by omega, by go_num, by rw [HJ.out, if_pos hk0]⟩
          case measure => simp [intOf]; omega
        · have hki : decide ((0 : Int) < (k : Int)) = false := by simp; omega
          have hkn : decide (0 < k) = false := by simp; omega
          go_wp2_with fail
          go_round
          case rel => exact ⟨k + 1, by omega, by go_num, by rw [HJ.out, if_neg hk0]⟩
          case measure => simp [intOf]; omega
      · obtain rfl : k = n := by omega
        go_wp2_with fail
        go_ret
        exact ⟨ret_s HE.out.symm, rfl⟩

theorem namesS_size {xs : List Str} (h4 : xs.length ≤ 4) (h : ∀ j, j < xs.length → nameB (nth xs j) = true) : (namesS xs).size ≤ 24 := by
  unfold namesS
  split
  · show 1 ≤ 24; omega
  · have := jnS_size (xs := xs) (m := 5) (fun j hj => by
      have := h j hj
      unfold nameB at this
      simp only [Bool.and_eq_true, decide_eq_true_eq] at this
      omega) xs.length (Nat.le_refl _)
    have h2 : xs.length * (5 + 1) ≤ 4 * 6 := Nat.mul_le_mul_right _ h4
    omega
theorem nameB_size {s : Str} (h : nameB s = true) : 1 ≤ s.size ∧ s.size ≤ 5 := by
  unfold nameB at h
  simp only [Bool.and_eq_true, decide_eq_true_eq] at h
  omega
theorem stepB_sizes {s : Step} (h : stepB s = true) : s.after.length ≤ 4 ∧ (1 ≤ s.name.size ∧ s.name.size ≤ 5) ∧ ∀ j, j < s.after.length → nameB (nth s.after j) = true := by
  unfold stepB at h
  simp only [Bool.and_eq_true, decide_eq_true_eq] at h
  refine ⟨h.2, nameB_size h.1.1.2, fun j hj => ?_⟩
  have := allN_iff.1 h.1.1.1 j hj
  unfold ascAt at this
  simp only [Bool.and_eq_true] at this
  exact this.1

set_option maxRecDepth 100000 in
theorem stepTextI_any (A : Option Addr) (n c : Nat) (s : Step) (lo : Nat) (w : World) (hr : RStr w lo A n s.after) (hok : okStep s) (hc : n ≤ c) :
    Calls Tryz.prog 66 #[.agg #[.string s.name, .slice A n c, .bool s.undo]] w fun e w' => e = .returned (.string (textS s)) ∧ Below w.heap.size w w' := by
  have HR := Lib.hid hr; clear hr
  have HO := Lib.hid hok; clear hok
  cases h : stepB s
  · have HE := Lib.hid (show textS s = ⟨#[]⟩ by unfold textS; rw [if_neg (by rw [h]; simp)])
    go_enter Tryz.func66, Tryz.ntmps66
    go_wp2_with fail
    refine (stepI_any _ _ _ s _ _ (HR.out.alloc _) HO.out).mono ?_
    rintro e w1 ⟨rfl, hb⟩
    rw [h]
    clear h
    go_wp2_with fail
    go_ret
    exact ⟨ret_s HE.out.symm, ((Below.refl _ _).alloc (Nat.le_refl _) _).trans (hb.mono (by simp))⟩
  · have HE := Lib.hid (show textS s = stepS s by unfold textS; rw [if_pos h])
    obtain ⟨hn4, hz, hnm⟩ := stepB_sizes h
    have HNM := Lib.hid hnm; clear hnm
    have hn4' : n ≤ 4 := by rw [← HR.out.1]; exact hn4
    go_enter Tryz.func66, Tryz.ntmps66
    go_wp2_with fail
    refine (stepI_any _ _ _ s _ _ (HR.out.alloc _) HO.out).mono ?_
    rintro e w1 ⟨rfl, hb⟩
    rw [h]
    have q1 := hz.2
    have q2 := namesS_size hn4 HNM.out
    clear h hn4 hz
    have HB := Lib.hid (((Below.refl w.heap.size w).alloc (Nat.le_refl _) (.cells #[.string s.name, .slice A n c, .bool s.undo] 35)).trans (hb.mono (by simp)))
    have HX := Lib.hid ((hb.block w.heap.size (by simp)).trans (heap_new (w := w) (o := .cells #[.string s.name, .slice A n c, .bool s.undo] 35) rfl))
    clear hb
    have hwx := heap_lt HX.out
    have HNT := Lib.hid (fun x : Bl w1 => namesTextI_any A n c s.after _ x.wd ((HR.out.below HB.out).below x.below) hc (by omega) (fun j hj => by have := (nameB_size (HNM.out j (by rw [HR.out.1]; exact hj))).2; omega))
    have X0 : ∀ x : Bl w1, x.wd.cell? ⟨w.heap.size, 0, none⟩ = some (.string s.name) := fun x => (blk_cl (k := 0) ((x.below.block _ hwx).trans HX.out) rfl).1
    have X1 : ∀ x : Bl w1, x.wd.cell? ⟨w.heap.size, 1, none⟩ = some (.slice A n c) := fun x => (blk_cl (k := 1) ((x.below.block _ hwx).trans HX.out) rfl).1
    go_wp2_with fail
    refine region_bl (by kernel_rfl) (by kernel_rfl) ?_
    repeat (go_big_quiet_step ((go_at_call 37; exact q_bl (HNT.out _))))
    refine wpQuiet_nil ?_
    intro _ hw'
    obtain ⟨x, rfl⟩ := hw'
    have x2 := (blk_cl (k := 2) ((x.below.block _ hwx).trans HX.out) rfl).1
    have HB2 := Lib.hid (HB.out.trans (x.below.mono HB.out.size))
    clear X0 X1 HNT
    cases hu : s.undo
    · have HS := Lib.hid (show stepS s = (s.name ++ ⟨#[58]⟩ ++ namesS s.after) ++ ⟨#[33]⟩ by unfold stepS; rw [if_neg (by rw [hu]; simp)])
      rw [show (#[Value.string s.name, Value.slice A n c, Value.bool s.undo] : Array Value)[2] = .bool s.undo from rfl, hu] at x2
      go_wp2_with fail
      go_ret
      exact ⟨ret_s (by rw [HE.out, HS.out]), HB2.out⟩
    · have HS := Lib.hid (show stepS s = s.name ++ ⟨#[58]⟩ ++ namesS s.after by unfold stepS; rw [if_pos hu])
      rw [show (#[Value.string s.name, Value.slice A n c, Value.bool s.undo] : Array Value)[2] = .bool s.undo from rfl, hu] at x2
      go_wp2_with fail
      go_ret
      exact ⟨ret_s (by rw [HE.out, HS.out]), HB2.out⟩

set_option maxRecDepth 100000 in
theorem l41Step_any (A : Option Addr) (n c : Nat) (s : Step) (lo : Nat) (w : World) (hr : RStr w lo A n s.after) (h : stepB s = true) :
    Calls Tryz.prog 75 #[.agg #[.string s.name, .slice A n c, .bool s.undo]] w fun e w' => e = .returned (.string (stepS s)) ∧ Below w.heap.size w w' := by
  have HR := Lib.hid hr; clear hr
  obtain ⟨hn4, hz, hnm⟩ := stepB_sizes h
  have q1 := hz.2
  have q2 := namesS_size hn4 hnm
  have HNM := Lib.hid hnm; clear hnm h
  have hn4' : n ≤ 4 := by rw [← HR.out.1]; exact hn4
  have HB := Lib.hid ((Below.refl w.heap.size w).alloc (Nat.le_refl _) (.cells #[.string s.name, .slice A n c, .bool s.undo] 35))
  have HX := Lib.hid (heap_new (w := w) (o := .cells #[.string s.name, .slice A n c, .bool s.undo] 35) rfl)
  have HRA := Lib.hid (HR.out.alloc (.cells #[.string s.name, .slice A n c, .bool s.undo] 35))
  go_enter Tryz.func75, Tryz.ntmps75
  go_wp2_with fail
  generalize ewk : w.alloc (.cells #[.string s.name, .slice A n c, .bool s.undo] 35) = wk at *
  have hwx := heap_lt HX.out
  have HNT := Lib.hid (fun x : Bl wk => l41Names_any A n c s.after _ x.wd (HRA.out.below x.below) (by omega) (fun j hj => by have := (nameB_size (HNM.out j (by rw [HR.out.1]; exact hj))).2; omega))
  have X0 : ∀ x : Bl wk, x.wd.cell? ⟨w.heap.size, 0, none⟩ = some (.string s.name) := fun x => (blk_cl (k := 0) ((x.below.block _ hwx).trans HX.out) rfl).1
  have X1 : ∀ x : Bl wk, x.wd.cell? ⟨w.heap.size, 1, none⟩ = some (.slice A n c) := fun x => (blk_cl (k := 1) ((x.below.block _ hwx).trans HX.out) rfl).1
  clear ewk
  refine region_bl (by kernel_rfl) (by kernel_rfl) ?_
  repeat (go_big_quiet_step ((go_at_call 44; exact q_bl_same (HNT.out _))))
  refine wpQuiet_nil ?_
  intro _ hw'
  obtain ⟨x, rfl⟩ := hw'
  have x2 := (blk_cl (k := 2) ((x.below.block _ hwx).trans HX.out) rfl).1
  have HB2 := Lib.hid (HB.out.trans (x.below.mono HB.out.size))
  clear X0 X1 HNT
  cases hu : s.undo
  · have HS := Lib.hid (show stepS s = (s.name ++ ⟨#[58]⟩ ++ namesS s.after) ++ ⟨#[33]⟩ by unfold stepS; rw [if_neg (by rw [hu]; simp)])
    rw [show (#[Value.string s.name, Value.slice A n c, Value.bool s.undo] : Array Value)[2] = .bool s.undo from rfl, hu] at x2
    go_wp2_with fail
    go_ret
    exact ⟨ret_s (by rw [HS.out]), HB2.out⟩
  · have HS := Lib.hid (show stepS s = s.name ++ ⟨#[58]⟩ ++ namesS s.after by unfold stepS; rw [if_pos hu])
    rw [show (#[Value.string s.name, Value.slice A n c, Value.bool s.undo] : Array Value)[2] = .bool s.undo from rfl, hu] at x2
    go_wp2_with fail
    go_ret
    exact ⟨ret_s (by rw [HS.out]), HB2.out⟩

end Go.Proofs.YthdfefgianokgaaGreatDoor

/- The mark of a step's text. -/
namespace Go.Proofs.YthdfefgianokgaaGreatDoor
open Go.RowKit

theorem get_app {a z : Str} {k : Nat} (hz : z.size = k + 1) (h : a.size + k < (a ++ z : Str).size) : (a ++ z : Str)[a.size + k] = z[k]'(by omega) := by
  have hl : (a ++ z : Str).data.toList = a.data.toList ++ z.data.toList := bl_app a z
  have hk : k < z.data.toList.length := by
    have : z.data.toList.length = z.size := rfl
    omega
  have e : (a ++ z : Str).data.toList[a.size + k]? = some z.data.toList[k] := by
    rw [hl, List.getElem?_append_right (show a.data.toList.length ≤ a.size + k from Nat.le_add_right a.size k), show a.size + k - a.data.toList.length = k from Nat.add_sub_cancel_left a.size k]
    exact List.getElem?_eq_getElem hk
  obtain ⟨h1, e2⟩ := List.getElem?_eq_some_iff.1 e
  have e3 : (a ++ z : Str)[a.size + k] = (a ++ z : Str).data.toList[a.size + k] := rfl
  have e4 : z[k]'(by omega) = z.data.toList[k] := rfl
  rw [e3, e4]
  exact e2
/-- The last byte. -/
def lastIs (y : Str) (k : Nat) (b : UInt8) : Prop := y.size = k + 1 ∧ ∀ h : k < y.size, y[k] = b
theorem lastIs_app {a z : Str} {k : Nat} {b : UInt8} (h : lastIs z k b) : lastIs (a ++ z) (a.size + k) b :=
  ⟨by rw [bsz_app, h.1]; omega, fun hh => by rw [get_app h.1 hh]; exact h.2 _⟩
theorem lastIs_one (b : UInt8) : lastIs ⟨#[b]⟩ 0 b := ⟨rfl, fun _ => rfl⟩
theorem name_last {s : Str} (h : nameB s = true) : ∃ k b, lastIs s k b ∧ b ≠ 33 := by
  have h1 := nameB_size h
  refine ⟨s.size - 1, s[s.size - 1]'(by omega), ⟨by omega, fun _ => rfl⟩, ?_⟩
  unfold nameB at h
  simp only [Bool.and_eq_true] at h
  have h2 := List.all_eq_true.1 h.2 (s[s.size - 1]'(by omega)) (by
    show s.data[s.size - 1]'_ ∈ _
    rw [← Array.getElem_toList]
    exact List.getElem_mem _)
  unfold lowB at h2
  simp only [Bool.and_eq_true, decide_eq_true_eq] at h2
  intro e
  rw [e] at h2
  exact absurd h2.1 (by decide)
theorem names_last {xs : List Str} (h : ∀ j, j < xs.length → nameB (nth xs j) = true) : ∃ k b, lastIs (namesS xs) k b ∧ b ≠ 33 := by
  unfold namesS
  split
  · exact ⟨0, 45, lastIs_one 45, by decide⟩
  · obtain ⟨k, hk⟩ : ∃ k, xs.length = k + 1 := ⟨xs.length - 1, by omega⟩
    obtain ⟨i, b, hi, hb⟩ := name_last (h k (by omega))
    rw [hk]
    exact ⟨_, b, lastIs_app hi, hb⟩
/-- What the law asks of a text. -/
structure Mark (s : Step) (y : Str) (k : Nat) (b : UInt8) : Prop where
  last : lastIs y k b
  mark : b = 33 ↔ s.undo = false
  pre : ∃ z, y = s.name ++ z
  small : y.size ≤ 100
theorem mark_ex {s : Step} (h : stepB s = true) : ∃ k b, Mark s (stepS s) k b := by
  obtain ⟨hn4, hz, hnm⟩ := stepB_sizes h
  obtain ⟨k, b, h1, h2⟩ := names_last hnm
  have h3 := namesS_size hn4 hnm
  have e1 : (⟨#[58]⟩ : Str).size = 1 := rfl
  have e2 : (⟨#[33]⟩ : Str).size = 1 := rfl
  unfold stepS
  cases hu : s.undo
  · rw [if_neg (by simp)]
    refine ⟨_, 33, lastIs_app (lastIs_one 33), by simp [hu], ⟨⟨#[58]⟩ ++ namesS s.after ++ ⟨#[33]⟩, by simp [ByteArray.append_assoc]⟩, ?_⟩
    rw [bsz_app, bsz_app, bsz_app]; omega
  · rw [if_pos rfl]
    refine ⟨_, b, lastIs_app h1, by simp [hu, h2], ⟨⟨#[58]⟩ ++ namesS s.after, by simp [ByteArray.append_assoc]⟩, ?_⟩
    rw [bsz_app, bsz_app]; omega
end Go.Proofs.YthdfefgianokgaaGreatDoor

/- Texts cut at a byte, and the step of a text. No program in sight. -/
namespace Go.Proofs.YthdfefgianokgaaGreatDoor
open Go.RowKit

abbrev Bytes := List UInt8
/-- A text cut at each byte of one kind. -/
def cutW (b : UInt8) : Bytes → List Bytes
  | [] => [[]]
  | c :: r => if c = b then [] :: cutW b r else match cutW b r with
    | [] => [[c]]
    | h :: t => (c :: h) :: t
theorem cutW_ne (b : UInt8) : ∀ s : Bytes, cutW b s ≠ []
  | [] => by simp [cutW]
  | c :: r => by
    unfold cutW
    split
    · simp
    · split <;> simp
theorem cutW_none {b : UInt8} : ∀ {a : Bytes}, (∀ x ∈ a, x ≠ b) → cutW b a = [a]
  | [], _ => rfl
  | c :: r, h => by
    have ih := cutW_none (b := b) (a := r) fun x hx => h x (List.mem_cons_of_mem _ hx)
    unfold cutW
    rw [if_neg (h c (List.mem_cons_self ..)), ih]
theorem cutW_hit {b : UInt8} (r : Bytes) : ∀ {a : Bytes}, (∀ x ∈ a, x ≠ b) → cutW b (a ++ b :: r) = a :: cutW b r
  | [], _ => by show cutW b (b :: r) = _; rw [cutW, if_pos rfl]
  | c :: a, h => by
    have ih := cutW_hit (b := b) r (a := a) fun x hx => h x (List.mem_cons_of_mem _ hx)
    rw [List.cons_append, cutW, if_neg (h c (List.mem_cons_self ..)), ih]
theorem cutW_len (b : UInt8) : ∀ s : Bytes, (cutW b s).length ≤ s.length + 1
  | [] => by simp [cutW]
  | c :: r => by
    have ih := cutW_len b r
    unfold cutW
    split
    · simp; omega
    · cases h : cutW b r with
      | nil => simp
      | cons x t => rw [h] at ih; simp at ih ⊢; omega
theorem cutW_mem (b : UInt8) : ∀ (s : Bytes), ∀ x ∈ cutW b s, x.length ≤ s.length
  | [], x, hx => by simp [cutW] at hx; subst hx; simp
  | c :: r, x, hx => by
    have ih := cutW_mem b r
    unfold cutW at hx
    split at hx
    · rcases List.mem_cons.1 hx with rfl | hx
      · simp
      · have := ih x hx; simp; omega
    · cases h : cutW b r with
      | nil => rw [h] at hx; simp at hx; subst hx; simp
      | cons y t =>
        rw [h] at hx ih
        simp only [List.mem_cons] at hx ih
        rcases hx with rfl | hx
        · have := ih y (.inl rfl); simp; omega
        · have := ih x (.inr hx); simp; omega
theorem cutW_join {b : UInt8} : ∀ (xs : List Bytes), xs ≠ [] → (∀ x ∈ xs, ∀ c ∈ x, c ≠ b) → cutW b (Lib.join xs [b]) = xs
  | [], h, _ => absurd rfl h
  | [x], _, h => by rw [Lib.join_one]; exact cutW_none (h x (List.mem_cons_self ..))
  | x :: y :: r, _, h => by
    have ih := cutW_join (b := b) (y :: r) (by simp) fun z hz => h z (List.mem_cons_of_mem _ hz)
    have e : Lib.join (x :: y :: r) [b] = x ++ b :: Lib.join (y :: r) [b] := by
      rw [Lib.join_cons, Lib.join_cons]
      simp [Lib.joinTail]
    rw [e, cutW_hit _ (h x (List.mem_cons_self ..)), ih]

theorem index_hit {b : UInt8} (r : Bytes) : ∀ {a : Bytes}, (∀ x ∈ a, x ≠ b) → Lib.index (a ++ b :: r) [b] = (a.length : Int)
  | [], _ => by rw [List.nil_append, Lib.index]; simp [List.isPrefixOf]
  | c :: a, h => by
    have ih := index_hit (b := b) r (a := a) fun x hx => h x (List.mem_cons_of_mem _ hx)
    have hc : b ≠ c := Ne.symm (h c (List.mem_cons_self ..))
    rw [List.cons_append, Lib.index, ih]
    have : ¬ ((a.length : Int) == -1) = true := by intro e; have := beq_iff_eq.1 e; omega
    simp [List.isPrefixOf, hc]
theorem first_split (b : UInt8) : ∀ s : Bytes, (∀ x ∈ s, x ≠ b) ∨ ∃ a r, s = a ++ b :: r ∧ ∀ x ∈ a, x ≠ b
  | [] => .inl (fun x hx => by cases hx)
  | c :: s => by
    by_cases h : c = b
    · subst h; exact .inr ⟨[], s, rfl, fun x hx => by cases hx⟩
    · rcases first_split b s with h1 | ⟨a, r, e, h1⟩
      · exact .inl fun x hx => by
          rcases List.mem_cons.1 hx with rfl | hx
          · exact h
          · exact h1 x hx
      · refine .inr ⟨c :: a, r, by rw [e]; rfl, fun x hx => ?_⟩
        rcases List.mem_cons.1 hx with rfl | hx
        · exact h
        · exact h1 x hx
theorem splitK_cut (b : UInt8) : ∀ (k : Nat) (s : Bytes), Lib.count s [b] = k → Lib.splitK [b] 0 k s = cutW b s
  | 0, s, h => by
    rcases first_split b s with h1 | ⟨a, r, e, h1⟩
    · rw [cutW_none h1]; rfl
    · rw [Lib.count_one, e] at h
      simp at h
  | k + 1, s, h => by
    rcases first_split b s with h1 | ⟨a, r, e, h1⟩
    · rw [Lib.count_one] at h
      have : s.count b = 0 := List.count_eq_zero.2 fun hb => h1 b hb rfl
      omega
    · have ha : a.count b = 0 := List.count_eq_zero.2 fun hb => h1 b hb rfl
      have hr : Lib.count r [b] = k := by
        rw [Lib.count_one] at h ⊢
        rw [e, List.count_append, List.count_cons_self, ha] at h
        omega
      have hi := index_hit (b := b) r h1
      rw [e, cutW_hit r h1, Lib.splitK, hi]
      have hn : ¬ ((a.length : Int) == -1) = true := by intro e; have := beq_iff_eq.1 e; omega
      rw [if_neg hn]
      have e1 : ((a.length : Int).toNat + 0) = a.length := by omega
      have e2 : (((a.length : Int).toNat) + [b].length) = a.length + 1 := by simp
      rw [e1, e2, List.take_left]
      have e3 : (a ++ b :: r).drop (a.length + 1) = r := by
        rw [List.drop_append]
        simp
      rw [e3, splitK_cut b k r hr]
theorem split_cut (b : UInt8) (s : Bytes) : Lib.splitK [b] 0 (Lib.count s [b]) s = cutW b s := splitK_cut b _ s rfl
theorem count_cutW (b : UInt8) : ∀ s : Bytes, (cutW b s).length = s.count b + 1
  | [] => rfl
  | c :: s => by
    have ih := count_cutW b s
    by_cases h : c = b
    · subst h; rw [cutW, if_pos rfl, List.length_cons, ih, List.count_cons_self]
    · rw [cutW, if_neg h, List.count_cons_of_ne (by simpa using h)]
      cases h2 : cutW b s with
      | nil => exact absurd h2 (cutW_ne b s)
      | cons x t => rw [h2] at ih; simpa using ih
theorem count_cut (b : UInt8) (s : Bytes) : (cutW b s).length = Lib.count s [b] + 1 := by
  rw [Lib.count_one]
  exact count_cutW b s
theorem cut_hit {b : UInt8} {a : Bytes} (r : Bytes) (h : ∀ x ∈ a, x ≠ b) : Lib.cut (a ++ b :: r) [b] = (a, r, true) := by
  unfold Lib.cut
  rw [index_hit r h, if_pos (by omega)]
  have e3 : (a ++ b :: r).drop ((a.length : Int).toNat + [b].length) = r := by
    have : (a.length : Int).toNat + [b].length = a.length + 1 := by simp
    rw [this, List.drop_append]
    simp
  rw [e3]
  simp
/-- Bytes of a step's text. -/
def bs (s : Str) : Bytes := s.data.toList
def ofBs (l : Bytes) : Str := ⟨l.toArray⟩
theorem bs_of (l : Bytes) : bs (ofBs l) = l := by simp [bs, ofBs]
theorem of_bs (s : Str) : ofBs (bs s) = s := by
  unfold bs ofBs
  obtain ⟨⟨l⟩⟩ := s
  rfl
theorem bs_app (a b : Str) : bs (a ++ b) = bs a ++ bs b := bl_app a b
theorem bs_len (s : Str) : (bs s).length = s.size := rfl
theorem name_byte {s : Str} (h : nameB s = true) : ∀ c ∈ bs s, 97 ≤ c.toNat ∧ c.toNat ≤ 122 := by
  intro c hc
  unfold nameB at h
  simp only [Bool.and_eq_true] at h
  have h2 := List.all_eq_true.1 h.2 c (by
    show c ∈ _
    exact hc)
  unfold lowB at h2
  simp only [Bool.and_eq_true, decide_eq_true_eq] at h2
  omega
theorem bs_names {xs : List Str} : bs (namesS xs) = if xs.length = 0 then [45] else Lib.join (xs.map bs) [44] := by
  unfold namesS
  by_cases h : xs.length = 0
  · rw [if_pos h, if_pos h]; rfl
  · rw [if_neg h, if_neg h, ← jnS_join (by omega)]
    exact bs_of _
theorem bs_step (t : Step) : bs (stepS t) = bs t.name ++ 58 :: (bs (namesS t.after) ++ if t.undo then [] else [33]) := by
  unfold stepS
  cases t.undo
  · simp only [Bool.false_eq_true, if_false]
    rw [bs_app, bs_app, bs_app]
    simp [bs]
  · simp only [if_true]
    rw [bs_app, bs_app]
    simp [bs]
theorem join_bytes {P : UInt8 → Prop} (h44 : P 44) : ∀ xs : List Bytes, (∀ x ∈ xs, ∀ c ∈ x, P c) → ∀ c ∈ Lib.join xs [44], P c
  | [], _, c, hc => by simp [Lib.join] at hc
  | [x], h, c, hc => by rw [Lib.join_one] at hc; exact h x (List.mem_cons_self ..) c hc
  | x :: y :: r, h, c, hc => by
    have e : Lib.join (x :: y :: r) [44] = x ++ 44 :: Lib.join (y :: r) [44] := by
      rw [Lib.join_cons, Lib.join_cons]
      simp [Lib.joinTail]
    rw [e] at hc
    rcases List.mem_append.1 hc with hc | hc
    · exact h x (List.mem_cons_self ..) c hc
    · rcases List.mem_cons.1 hc with rfl | hc
      · exact h44
      · exact join_bytes h44 (y :: r) (fun z hz => h z (List.mem_cons_of_mem _ hz)) c hc
theorem names_byte {xs : List Str} (h : ∀ j, j < xs.length → nameB (nth xs j) = true) : ∀ c ∈ bs (namesS xs), c ≠ 58 ∧ c ≠ 33 := by
  intro c hc
  rw [bs_names] at hc
  split at hc
  · simp at hc; subst hc; decide
  · refine join_bytes (P := fun c => c ≠ 58 ∧ c ≠ 33) (by decide) (xs.map bs) (fun x hx => ?_) c hc
    obtain ⟨s, hs, rfl⟩ := List.mem_map.1 hx
    obtain ⟨j, hj, rfl⟩ := nth_of_mem hs
    intro c hc
    have h2 := name_byte (h j hj) c hc
    constructor <;> (intro e; subst e; revert h2; decide)
theorem name_no {s : Str} (h : nameB s = true) (b : UInt8) (hb : b.toNat < 97) : ∀ c ∈ bs s, c ≠ b := by
  intro c hc e
  subst e
  have := name_byte h c hc
  omega

/-- The text ahead of the mark, and whether there is none. -/
def restL (s : Str) : Bytes := if bs s ≠ [] ∧ (bs s).getLast? = some 33 then (bs s).dropLast else bs s
def undoL (s : Str) : Bool := !decide ((bs s).getLast? = some 33)
/-- What a text's words are read as. -/
def readS (s : Str) (name after : Bytes) : Step := ⟨ofBs name, if after = [45] then [] else (cutW 44 after).map ofBs, undoL s⟩

theorem step_rest {t : Step} (h : stepB t = true) : restL (stepS t) = bs t.name ++ 58 :: bs (namesS t.after) ∧ undoL (stepS t) = t.undo := by
  obtain ⟨_, _, hnm⟩ := stepB_sizes h
  have hb := names_byte hnm
  have hne : bs (namesS t.after) ≠ [] := by
    rw [bs_names]
    split
    · simp
    · intro e
      have h1 := congrArg List.length e
      cases ha : t.after with
      | nil => simp [ha] at *
      | cons x r =>
        have hx : nameB x = true := by have := hnm 0 (by rw [ha]; simp); rw [ha] at this; exact this
        have hs := (nameB_size hx).1
        rw [ha, List.map_cons, Lib.join_cons] at h1
        simp at h1
        have : (bs x).length = x.size := bs_len x
        rw [h1.1] at this
        simp at this
        omega
  unfold restL undoL
  rw [bs_step]
  cases t.undo
  · simp only [Bool.false_eq_true, if_false]
    have e1 : (bs t.name ++ 58 :: (bs (namesS t.after) ++ [33])) = (bs t.name ++ 58 :: bs (namesS t.after)) ++ [33] := by simp
    rw [e1]
    generalize bs t.name ++ 58 :: bs (namesS t.after) = q
    have h1 : (q ++ [(33 : UInt8)]).getLast? = some 33 := List.getLast?_concat ..
    rw [h1, if_pos ⟨by simp, rfl⟩, List.dropLast_concat]
    exact ⟨rfl, by simp⟩
  · simp only [if_true, List.append_nil]
    have e1 : (bs t.name ++ 58 :: bs (namesS t.after)).getLast? ≠ some 33 := by
      rw [List.getLast?_append]
      have : (58 :: bs (namesS t.after)).getLast? = (bs (namesS t.after)).getLast? := by
        cases hx : bs (namesS t.after) with
        | nil => exact absurd hx hne
        | cons a r => rfl
      rw [this]
      cases hx : (bs (namesS t.after)).getLast? with
      | none => exact absurd (List.getLast?_eq_none_iff.1 hx) hne
      | some c =>
        have := hb c (List.mem_of_getLast? hx)
        simp [this.2]
    rw [if_neg (fun h => e1 h.2)]
    exact ⟨rfl, by rw [decide_eq_false e1]; rfl⟩
theorem step_read {t : Step} (h : stepB t = true) : readS (stepS t) (bs t.name) (bs (namesS t.after)) = t := by
  obtain ⟨_, _, hnm⟩ := stepB_sizes h
  unfold readS
  rw [(step_rest h).2, of_bs]
  have ha : (if bs (namesS t.after) = [45] then [] else (cutW 44 (bs (namesS t.after))).map ofBs) = t.after := by
    rw [bs_names]
    by_cases h0 : t.after.length = 0
    · rw [if_pos h0, if_pos rfl]
      exact (List.length_eq_zero_iff.1 h0).symm
    · rw [if_neg h0]
      have hmem : ∀ x ∈ t.after.map bs, ∀ c ∈ x, 97 ≤ c.toNat := fun x hx c hc => by
        obtain ⟨s, hs, rfl⟩ := List.mem_map.1 hx
        obtain ⟨j, hj, rfl⟩ := nth_of_mem hs
        exact (name_byte (hnm j hj) c hc).1
      have hne : Lib.join (t.after.map bs) [44] ≠ [45] := by
        intro e
        have : ∀ c ∈ Lib.join (t.after.map bs) [44], c ≠ 45 := join_bytes (by decide) _ fun x hx c hc e => by
          have := hmem x hx c hc
          subst e
          revert this; decide
        exact this 45 (by rw [e]; simp) rfl
      rw [if_neg hne, cutW_join _ (by intro e; apply h0; simpa using e) fun x hx c hc e => by
        have := hmem x hx c hc
        subst e
        revert this; decide]
      rw [List.map_map]
      have : (ofBs ∘ bs) = id := by funext s; exact of_bs s
      rw [this, List.map_id]
  rw [ha]

/-- The step of a text, if it is that of one. -/
def fromW (s : Str) : Option Step := match cutW 58 (restL s) with
  | [a, b] => if stepB (readS s a b) = true ∧ stepS (readS s a b) = s then some (readS s a b) else none
  | _ => none
def noStep : Step := ⟨⟨#[]⟩, [], false⟩
def fromB (s : Str) : Bool := (fromW s).isSome
def fromT (s : Str) : Step := (fromW s).getD noStep
theorem fromW_of {t : Step} (h : stepB t = true) : fromW (stepS t) = some t := by
  obtain ⟨_, _, hnm⟩ := stepB_sizes h
  have hname : nameB t.name = true := by
    unfold stepB at h
    simp only [Bool.and_eq_true] at h
    exact h.1.1.2
  have e : cutW 58 (restL (stepS t)) = [bs t.name, bs (namesS t.after)] := by
    rw [(step_rest h).1, cutW_hit _ (name_no hname 58 (by decide)), cutW_none (fun c hc => (names_byte hnm c hc).1)]
  unfold fromW
  rw [e]
  show (if stepB (readS (stepS t) (bs t.name) (bs (namesS t.after))) = true ∧ stepS (readS (stepS t) (bs t.name) (bs (namesS t.after))) = stepS t then some (readS (stepS t) (bs t.name) (bs (namesS t.after))) else none) = some t
  rw [step_read h, if_pos ⟨h, rfl⟩]
theorem fromW_some {s : Str} {t : Step} (h : fromW s = some t) : stepB t = true ∧ stepS t = s := by
  unfold fromW at h
  split at h
  · rename_i a b _
    by_cases hc : stepB (readS s a b) = true ∧ stepS (readS s a b) = s
    · rw [if_pos hc] at h
      rw [← Option.some.inj h]
      exact hc
    · rw [if_neg hc] at h; cases h
  · cases h
theorem from_yes {s : Str} {t : Step} (h : stepB t = true) (e : stepS t = s) : fromB s = true ∧ fromT s = t := by
  have hx := fromW_of h
  rw [e] at hx
  unfold fromB fromT
  rw [hx]
  exact ⟨rfl, rfl⟩
theorem from_ex {s : Str} (h : fromB s = true) : stepB (fromT s) = true ∧ stepS (fromT s) = s := by
  unfold fromB at h
  unfold fromT
  cases hx : fromW s with
  | none => rw [hx] at h; cases h
  | some t => exact fromW_some hx
theorem from_not {s : Str} (h : fromB s = false) : fromT s = noStep := by
  unfold fromB at h
  unfold fromT
  cases hx : fromW s with
  | none => rfl
  | some t => rw [hx] at h; cases h
/-- The text's words, where it is a step's. -/
theorem from_words {s : Str} (h : fromB s = true) : ∃ name after : Bytes, restL s = name ++ 58 :: after ∧ (∀ c ∈ name, c ≠ 58) ∧ (∀ c ∈ after, c ≠ 58) ∧ readS s name after = fromT s ∧ s.size ≤ 100 := by
  obtain ⟨h1, h2⟩ := from_ex h
  obtain ⟨h4, hz, hnm⟩ := stepB_sizes h1
  have hname : nameB (fromT s).name = true := by
    unfold stepB at h1
    simp only [Bool.and_eq_true] at h1
    exact h1.1.1.2
  refine ⟨bs (fromT s).name, bs (namesS (fromT s).after), ?_, name_no hname 58 (by decide), fun c hc => (names_byte hnm c hc).1, ?_, ?_⟩
  · have := (step_rest h1).1; rw [h2] at this; exact this
  · have := step_read h1; rw [h2] at this; exact this
  · have e := bs_step (fromT s)
    have e2 := congrArg List.length e
    rw [h2, bs_len] at e2
    have e3 := namesS_size h4 hnm
    simp only [List.length_append, List.length_cons, bs_len] at e2
    split at e2 <;> simp at e2 <;> omega
end Go.Proofs.YthdfefgianokgaaGreatDoor

/- What the program and the reference read from a text. No program in sight. -/
namespace Go.Proofs.YthdfefgianokgaaGreatDoor
open Go.RowKit

theorem suf_rest (s : Str) : Lib.trimSuffix (bs s) [33] = restL s ∧ Lib.hasSuffix (bs s) [33] = !undoL s := by
  unfold restL undoL Lib.trimSuffix Lib.hasSuffix
  generalize bs s = q
  by_cases h : q.getLast? = some 33
  · obtain ⟨t, rfl⟩ := List.getLast?_eq_some_iff.1 h
    have h1 : List.isSuffixOf [33] (t ++ [(33 : UInt8)]) = true := List.isSuffixOf_iff_suffix.2 ⟨t, rfl⟩
    have hne : t ++ [(33 : UInt8)] ≠ [] := by simp
    rw [h1, if_pos rfl, if_pos ⟨hne, h⟩, decide_eq_true h]
    simp
  · have h1 : List.isSuffixOf [33] q = false := by
      cases hx : List.isSuffixOf [33] q
      · rfl
      · obtain ⟨t, e⟩ := List.isSuffixOf_iff_suffix.1 hx
        exact absurd (by rw [← e]; exact List.getLast?_concat ..) h
    rw [h1, if_neg (by simp), if_neg (fun hc => h hc.2), decide_eq_false h]
    exact ⟨rfl, rfl⟩
theorem splitB_cut (b : UInt8) (s : Str) : (Lib.splitB ⟨#[b]⟩ 0 (Lib.countB s ⟨#[b]⟩) s) = (cutW b (bs s)).map ofBs := by
  have h := Lib.splitB_data ⟨#[b]⟩ 0 (Lib.countB s ⟨#[b]⟩) s
  have h2 : Lib.splitK [b] 0 (Lib.countB s ⟨#[b]⟩) (bs s) = cutW b (bs s) := split_cut b (bs s)
  rw [← h2]
  have h3 : (Lib.splitB ⟨#[b]⟩ 0 (Lib.countB s ⟨#[b]⟩) s).map (·.data.toList) = Lib.splitK [b] 0 (Lib.countB s ⟨#[b]⟩) (bs s) := h
  rw [← h3, List.map_map]
  have : (ofBs ∘ fun x : ByteArray => x.data.toList) = id := by funext x; exact of_bs x
  rw [this, List.map_id]
theorem countB_cut (b : UInt8) (s : Str) : Lib.countB s ⟨#[b]⟩ + 1 = (cutW b (bs s)).length := (count_cut b (bs s)).symm

/-- What the program reads. -/
def cutI (s : Str) : Bytes × Bytes × Bool := Lib.cut (restL s) [58]
def rdI (s : Str) : Step := readS s (cutI s).1 (cutI s).2.1
theorem cutI_of {s : Str} (h : fromB s = true) : (cutI s).2.2 = true ∧ rdI s = fromT s := by
  obtain ⟨name, after, h1, h2, _, h4, _⟩ := from_words h
  unfold rdI cutI
  rw [h1, cut_hit after h2]
  exact ⟨rfl, h4⟩
theorem fromI_none {s : Str} (h : (cutI s).2.2 = false) : fromB s = false := by
  cases hb : fromB s
  · rfl
  · rw [(cutI_of hb).1] at h; cases h
theorem fromI_ne {s : Str} (h : textS (rdI s) ≠ s) : fromB s = false := by
  cases hb : fromB s
  · rfl
  · obtain ⟨h1, h2⟩ := from_ex hb
    rw [(cutI_of hb).2] at h
    exact absurd (by unfold textS; rw [if_pos h1, h2]) h
theorem fromI_eq {s : Str} (h : (cutI s).2.2 = true) (e : textS (rdI s) = s) : fromB s = true ∧ fromT s = rdI s := by
  cases hb : stepB (rdI s)
  · unfold textS at e
    rw [if_neg (by rw [hb]; simp)] at e
    subst e
    exact absurd h (by decide)
  · unfold textS at e
    rw [if_pos hb] at e
    exact from_yes hb e
/-- What the reference reads. -/
theorem fromS_len {s : Str} (h : (cutW 58 (restL s)).length ≠ 2) : fromB s = false := by
  unfold fromB fromW
  split
  · rename_i a b e
    rw [e] at h
    exact absurd rfl h
  · rfl
theorem fromS_no {s : Str} {a b : Bytes} (h : cutW 58 (restL s) = [a, b]) (hn : ¬ (stepB (readS s a b) = true ∧ stepS (readS s a b) = s)) : fromB s = false := by
  unfold fromB fromW
  rw [h]
  show (if stepB (readS s a b) = true ∧ stepS (readS s a b) = s then some (readS s a b) else none).isSome = false
  rw [if_neg hn]
  rfl
theorem two_of {l : List Bytes} (h : l.length = 2) : ∃ a b, l = [a, b] := by
  match l, h with
  | [a, b], _ => exact ⟨a, b, rfl⟩

end Go.Proofs.YthdfefgianokgaaGreatDoor

/- The frame of a law's row that lists variables. -/
namespace Go.Proofs.YthdfefgianokgaaGreatDoor
open Go.ChangeShapes Go.WideShapes Go.ChangeAt Go.RowKit

/-- The wrap with a condition on the world, the world's shape kept. -/
theorem handed_laid {H : Type} {enc : TypeId × Value → H} {a : Assume} {C : Checked} {os : Os} {f : FuncId} {fn : Func} {s : ChangeSpec} {conds : List PathCond} {apart fresh handsOn again : Bool} {X : World → Array Value → Prop}
    (hX : ∀ (w w' : World) (args : Array Value), w.heap = w'.heap → X w args → X w' args)
    (own : ownKnob C.prog.godebug = none) (started : os.Started) (noInit : C.prog.inits.idxOf? f = none) (hfn : C.prog.funcs[f]? = some fn)
    (witness : ∃ (w : World) (tape : Tape) (i : Input), w.os = os ∧ (w.forCall tape i).Shaped C.prog ∧ i.vars = [] ∧ Input.okWide C.prog (w.forCall tape i) .any w.heap.size f i ∧
      ((s.pre enc C.prog fn conds apart (w.forCall tape i).memory i.args ∧ X (w.forCall tape i).memory i.args) ∧ sizedMet enc C.prog fn (OpenSpec.ofChange s) apart (w.forCall tape i).memory i.args) ∧ a.holds C.prog (lone (Frame.enter C.prog f i.args .normal) [] (w.forCall tape i)))
    (contract : ∀ (W : World) (base : Nat) (args : Array Value) (ds gs : List (DataW H)) (before : List MemPlace),
      (∀ (j : Nat) t v, fn.params[j]? = some t → args[j]? = some v → Value.okWide C.prog W .any base t v) →
      DataW.Whole enc C.prog fn.params.toList s.vars apart W args.toList ds gs before →
      W.ShapedOpen C.prog → X W args →
      Calls C.prog f args W fun e W' => ∃ v, e = .returned v ∧ s.post enc C.prog fn apart fresh handsOn again W args v W') :
    ReturnsInHanded a C os f .any (fun w args => (s.pre enc C.prog fn conds apart w args ∧ X w args) ∧ sizedMet enc C.prog fn (OpenSpec.ofChange s) apart w args) (s.post enc C.prog fn apart fresh handsOn again) := by
  refine returnsInHanded_of_calls own started noInit witness ?_
  intro w tape i _ hsh _ hok hpre hholds
  obtain ⟨_, _, _, fn', hfn', _, _, _, _, hval⟩ := hok
  have e : fn' = fn := Option.some.inj (hfn'.symm.trans hfn)
  subst e
  obtain ⟨⟨⟨ds, gs, before, hw, hc⟩, hx⟩, hz⟩ := hpre
  have hw' := DataW.Whole.of_heap (w' := w.forCall tape i) (by rfl) hw
  refine (contract (w.forCall tape i) w.heap.size i.args ds gs before hval hw' hsh (hX _ _ _ (by rfl) hx)).mono fun e W' ⟨v, he, hp⟩ => ?_
  subst he
  exact ChangeSpec.post_blind hp
end Go.Proofs.YthdfefgianokgaaGreatDoor

/- strings.Builder's WriteString at this program: the shelf's layer by hand (its own command finds no number for the type string there). -/
namespace Go.Proofs.YthdfefgianokgaaGreatDoor
open Go.RowKit

def wsRen : Go.Shelf.Ren := ⟨fun | 166 => 23 | 240 => 33 | 276 => 55 | n => n, fun | 70 => 43 | 3 => 3 | 0 => 0 | 4 => 4 | 9 => 9 | 20 => 20 | 72 => 45 | 37 => 22 | 164 => 78 | 75 => 48 | 80 => 53 | 5 => 5 | n => n, fun | n => n⟩
theorem wsLays : Go.Proofs.Lays.n166 Tryz.prog wsRen := {
  mixed := by kernel_rfl
  f166 := Tryz.func23.trans (congrArg some (by kernel_rfl))
  f240 := Tryz.func33.trans (congrArg some (by kernel_rfl))
  f276 := Tryz.func55.trans (congrArg some (by kernel_rfl))
  t0 := Tryz.underlying0
  a0 := Tryz.isAgg0
  z0 := Tryz.sizeOf0
  v0 := Tryz.zeroValue0
  t3 := Tryz.underlying3
  a3 := Tryz.isAgg3
  z3 := Tryz.sizeOf3
  v3 := Tryz.zeroValue3
  t4 := Tryz.underlying4
  a4 := Tryz.isAgg4
  z4 := Tryz.sizeOf4
  v4 := Tryz.zeroValue4
  t9 := Tryz.underlying9
  a9 := Tryz.isAgg9
  z9 := Tryz.sizeOf9
  v9 := Tryz.zeroValue9
  t20 := Tryz.underlying20
  a20 := Tryz.isAgg20
  z20 := Tryz.sizeOf20
  v20 := Tryz.zeroValue20
  t37 := Tryz.underlying22
  a37 := Tryz.isAgg22
  z37 := Tryz.sizeOf22
  v37 := Tryz.zeroValue22
  t70 := Tryz.underlying43
  a70 := Tryz.isAgg43
  z70 := Tryz.sizeOf43
  v70 := Tryz.zeroValue43
  t72 := Tryz.underlying45
  a72 := Tryz.isAgg45
  z72 := Tryz.sizeOf45
  v72 := Tryz.zeroValue45
  t75 := Tryz.underlying48
  a75 := Tryz.isAgg48
  z75 := Tryz.sizeOf48
  v75 := Tryz.zeroValue48
  t164 := Tryz.underlying78
  a164 := Tryz.isAgg78
  z164 := Tryz.sizeOf78
  v164 := Tryz.zeroValue78 }
theorem wsExtra : Builder.Extra Tryz.prog wsRen := {
  sizeBuilder := by kernel_rfl
  liesBuilder := by kernel_rfl
  t5 := Tryz.underlying5
  a5 := Tryz.isAgg5
  z5 := Tryz.sizeOf5
  v5 := Tryz.zeroValue5
  infoByte := by kernel_rfl
  cellsByte := by kernel_rfl
  sizeByte := by kernel_rfl
  neB5 := by decide }
/-- (*strings.Builder).WriteString. -/
theorem writeString_any (B b : Nat) (bs : List Value) (s : ByteArray) (w : World) (h : Lib.IsBuilder 45 5 B b bs w) (hlen : bs.length + s.size ≤ 140737488355328) (hBw : B ≤ w.heap.size) :
    Calls Tryz.prog 23 #[.pointer (some ⟨b, 0, none⟩), .string s] w fun e w' => e = .returned (.tuple #[.int .i64 s.size, .nilIface]) ∧ (Lib.BuilderAt 45 5 B b (.pointer (some ⟨b, 0, none⟩)) (bs ++ Lib.strCells s) w' ∧ Below B w w') :=
  Any.Builder_WriteString wsLays wsExtra B b bs s w h hlen hBw
end Go.Proofs.YthdfefgianokgaaGreatDoor

/- The program's StepFrom. -/
namespace Go.Proofs.YthdfefgianokgaaGreatDoor
open Go.RowKit

/-- The library's variable holds an int. -/
def HasMax (w : World) : Prop := ∃ m, w.cell? ⟨2, 0, none⟩ = some (.int .i64 m)
theorem HasMax.lt {w : World} (h : HasMax w) : 2 < w.heap.size := by
  obtain ⟨m, hm⟩ := h
  rcases Nat.lt_or_ge 2 w.heap.size with h | h
  · exact h
  · have : w.heap[2]? = none := Array.getElem?_eq_none h
    simp [World.cell?, this] at hm
theorem HasMax.below {w w' : World} {B : Nat} (h : HasMax w) (hb : Below B w w') (hB : B = w.heap.size) : HasMax w' := by
  have hl := h.lt
  obtain ⟨m, hm⟩ := h
  exact ⟨m, (hb.cell (p := ⟨2, 0, none⟩) (by rw [hB]; exact hl)).trans hm⟩

theorem sstr_none (w : World) (lo : Nat) : SStr w lo none 0 [] := ⟨rfl, fun h => absurd h (by omega)⟩
theorem nth_map_ofBs (l : List Bytes) (j : Nat) (h : j < l.length) : nth (l.map ofBs) j = ofBs l[j] := by
  rw [nth_eq (by simpa using h)]
  simp
theorem restL_len (s : Str) : (restL s).length ≤ s.size := by
  unfold restL
  have : (bs s).length = s.size := bs_len s
  split
  · simp; omega
  · omega
theorem cutI_len (s : Str) : (cutI s).1.length ≤ s.size ∧ (cutI s).2.1.length ≤ s.size - 1 := by
  have h := restL_len s
  unfold cutI Lib.cut
  split
  · simp; omega
  · simp; omega
theorem ofBs_size (l : Bytes) : (ofBs l).size = l.length := by simp [ofBs, ByteArray.size]
theorem read_sizes (s : Str) : (rdI s).name.size ≤ s.size ∧ (rdI s).after.length ≤ s.size - 1 + 1 ∧ ∀ j, j < (rdI s).after.length → (nth (rdI s).after j).size ≤ s.size := by
  obtain ⟨h1, h2⟩ := cutI_len s
  unfold rdI readS
  refine ⟨by rw [ofBs_size]; exact h1, ?_, ?_⟩
  · show (if (cutI s).2.1 = [45] then [] else (cutW 44 (cutI s).2.1).map ofBs).length ≤ _
    split
    · simp
    · have := cutW_len 44 (cutI s).2.1
      simp; omega
  · show ∀ j, j < (if (cutI s).2.1 = [45] then [] else (cutW 44 (cutI s).2.1).map ofBs).length → (nth (if (cutI s).2.1 = [45] then [] else (cutW 44 (cutI s).2.1).map ofBs) j).size ≤ _
    split
    · intro j hj; simp at hj
    · intro j hj
      rw [List.length_map] at hj
      rw [nth_map_ofBs _ j hj, ofBs_size]
      have := cutW_mem 44 (cutI s).2.1 _ (List.getElem_mem hj)
      omega
theorem sstr_block {w : World} {b : Nat} {xs : List Str} (h : w.heap[b]? = some (.cells (xs.map Value.string).toArray 9 (0, 0))) : SStr w b (some ⟨b, 0, none⟩) xs.length xs :=
  ⟨rfl, fun _ => ⟨b, _, rfl, Nat.le_refl _, h, fun j hj => by simp [List.getElem?_eq_getElem hj, nth_eq hj]⟩⟩
theorem SStr.set {w : World} {base b o n : Nat} {A : Option Addr} {xs : List Str} {u : Value} (h : SStr w base A n xs) (hb : b < base) : SStr (w.setCell ⟨b, o, none⟩ u) base A n xs :=
  h.kept fun b' _ h1 _ => Below.heap_setCell w ⟨b, o, none⟩ u b' (by intro e; simp at e; omega)
theorem okStep_rdI {s : Str} (h : s.size ≤ 1048576) : okStep (rdI s) := by
  obtain ⟨h1, h2, h3⟩ := read_sizes s
  have hm : 1048576 ≤ maxLen := by unfold maxLen; omega
  exact ⟨by omega, by omega, fun j hj => by have := h3 j hj; omega⟩
theorem toList_bs (s : Str) : s.toList = bs s := by rw [ByteArray.toList_eq]; rfl
theorem stepS_small {s : Step} (h : stepB s = true) : (stepS s).size ≤ 100 ∧ 0 < (stepS s).size := by
  obtain ⟨k, b, hm⟩ := mark_ex h
  exact ⟨hm.small, by have := hm.last.1; omega⟩
set_option maxRecDepth 100000 in
theorem stepFromI_any (s : Str) (w : World) (hs : s.size ≤ 1048576) (hm : HasMax w) :
    Calls Tryz.prog 59 #[.string s] w fun e w' => ∃ A n c, e = .returned (.tuple #[.agg #[.string (fromT s).name, .slice A n c, .bool (fromT s).undo], .bool (fromB s)]) ∧ SStr w' w.heap.size A n (fromT s).after ∧ n ≤ c ∧ Below w.heap.size w w' := by
  have HM := Lib.hid hm; clear hm
  have hp := suf_rest s
  go_enter Tryz.func59, Tryz.ntmps59
  go_wp2_with fail
  refine (Tryz.strings_CutSuffix s ⟨#[33]⟩ _ (by omega)).mono ?_
  rintro e w1 ⟨rfl, rfl⟩
  rw [show Lib.trimSuffix s.data.toList (⟨#[33]⟩ : ByteArray).data.toList = restL s from hp.1, show Lib.hasSuffix s.data.toList (⟨#[33]⟩ : ByteArray).data.toList = !undoL s from hp.2]
  clear hp
  have HB0 := Lib.hid ((Below.refl w.heap.size w).alloc (Nat.le_refl _) (.cells #[.string ⟨#[]⟩, .slice none 0 0, .bool false] 35))
  have HX0 := Lib.hid (heap_new (w := w) (o := .cells #[.string ⟨#[]⟩, .slice none 0 0, .bool false] 35) rfl)
  go_wp2_with fail
  obtain ⟨m, hm⟩ := HM.out.below HB0.out rfl
  have hl := restL_len s
  refine (Tryz.strings_Cut ⟨(restL s).toArray⟩ ⟨#[58]⟩ m _ (by show (restL s).toArray.size < _; simp; omega) hm).mono ?_
  rintro e w1 ⟨rfl, nd, rfl⟩
  clear hm
  rw [show Lib.cut (⟨(restL s).toArray⟩ : ByteArray).data.toList (⟨#[58]⟩ : ByteArray).data.toList = cutI s from rfl]
  have hD : Below w.heap.size w ((w.alloc (.cells #[.string ⟨#[]⟩, .slice none 0 0, .bool false] 35)).drewN nd) := below_drewN HB0.out _
  have hXD : ((w.alloc (.cells #[.string ⟨#[]⟩, .slice none 0 0, .bool false] 35)).drewN nd).heap[w.heap.size]? = some (.cells #[.string ⟨#[]⟩, .slice none 0 0, .bool false] 35 (0, 0)) := by rw [World.heap_drewN]; exact HX0.out
  have hsz : ((w.alloc (.cells #[.string ⟨#[]⟩, .slice none 0 0, .bool false] 35)).drewN nd).heap.size = w.heap.size + 1 := by rw [World.heap_drewN]; simp
  generalize ((w.alloc (.cells #[.string ⟨#[]⟩, .slice none 0 0, .bool false] 35)).drewN nd) = wd at *
  have HBD := Lib.hid hD; clear hD
  have HXD := Lib.hid hXD; clear hXD
  clear HB0 HX0
  cases hok : (cutI s).2.2
  · have HF := Lib.hid (fromI_none hok)
    have r0a := (blk_cl (k := 0) HXD.out rfl).1
    have r0b := (blk_cl (k := 0) HXD.out rfl).2
    have r1a := (blk_cl (k := 1) HXD.out rfl).1
    have r1b := (blk_cl (k := 1) HXD.out rfl).2
    have r2a := (blk_cl (k := 2) HXD.out rfl).1
    have r2b := (blk_cl (k := 2) HXD.out rfl).2
    go_wp2_with fail
    have hres := set3 (u0 := .string ⟨#[]⟩) (u1 := .slice none 0 0) (u2 := .bool false) HXD.out
    have e0 := (blk_cl (k := 0) hres rfl).1
    have e1 := (blk_cl (k := 1) hres rfl).1
    have e2 := (blk_cl (k := 2) hres rfl).1
    refine bodyPost_ret (v := .tuple #[.agg #[.string ⟨#[]⟩, .slice none 0 0, .bool false], .bool false]) (by simp [results, Tryz.results59, go_sem, e0, e1, e2]) rfl ⟨none, 0, 0, ?_, ?_, Nat.le_refl _, ?_⟩
    · rw [from_not HF.out, HF.out]; rfl
    · rw [from_not HF.out]; exact sstr_none _ _
    · exact ((HBD.out.setCell (p := ⟨w.heap.size, 0, none⟩) (Nat.le_refl _) _).setCell (p := ⟨w.heap.size, 1, none⟩) (Nat.le_refl _) _).setCell (p := ⟨w.heap.size, 2, none⟩) (Nat.le_refl _) _
  · have HOK := Lib.hid (okStep_rdI hs)
    have HAY := Lib.hid (show (rdI s).after = if (cutI s).2.1 = [45] then [] else (cutW 44 (cutI s).2.1).map ofBs from rfl)
    by_cases hy : (cutI s).2.1 = [45]
    · have hq : ((cutI s).2.1 == [45]) = true := beq_iff_eq.2 hy
      have HA0 := Lib.hid (show (rdI s).after = [] by rw [HAY.out, if_pos hy])
      have HY0 := Lib.hid (heap_new (w := wd) (o := .cells #[.string ⟨(cutI s).1.toArray⟩, .slice none 0 0, .bool (undoL s)] 35) rfl)
      have HB1 := Lib.hid (HBD.out.alloc HBD.out.size (.cells #[.string ⟨(cutI s).1.toArray⟩, .slice none 0 0, .bool (undoL s)] 35))
      have HX1 := Lib.hid (heap_old (o := .cells #[.string ⟨(cutI s).1.toArray⟩, .slice none 0 0, .bool (undoL s)] 35) HXD.out)
      go_wp2_with fail
      refine (stepTextI_any none 0 0 (rdI s) w.heap.size _ (by rw [HA0.out]; exact (sstr_none _ _).hat) HOK.out (Nat.le_refl _)).mono ?_
      rintro e w2 ⟨rfl, hb2⟩
      have hx2 := (hb2.block _ (heap_lt HX1.out)).trans HX1.out
      have hy2 := (hb2.block _ (heap_lt HY0.out)).trans HY0.out
      rw [hsz] at hy2
      have HB2 := Lib.hid (HB1.out.trans (hb2.mono HB1.out.size))
      have HSS := Lib.hid (show SStr w2 w.heap.size none 0 (rdI s).after by rw [HA0.out]; exact sstr_none _ _)
      clear hb2 HX1 HY0 HB1 hq hy
      generalize eT : textS (rdI s) = T
      have r0a := (blk_cl (k := 0) hx2 rfl).1
      have r0b := (blk_cl (k := 0) hx2 rfl).2
      have r1a := (blk_cl (k := 1) hx2 rfl).1
      have r1b := (blk_cl (k := 1) hx2 rfl).2
      have r2a := (blk_cl (k := 2) hx2 rfl).1
      have r2b := (blk_cl (k := 2) hx2 rfl).2
      have y0a := (blk_cl (k := 0) hy2 rfl).1
      have y1a := (blk_cl (k := 1) hy2 rfl).1
      have y2a := (blk_cl (k := 2) hy2 rfl).1
      have HX2 := Lib.hid hx2
      clear hx2 hy2
      by_cases hT : T = s
      · have HT := Lib.hid (fromI_eq hok (eT.trans hT))
        have q0 : (T.toList == s.toList) = true := by rw [hT]; simp
        clear hT eT
        go_wp2_with fail
        have hres := set3 (u0 := .string ⟨(cutI s).1.toArray⟩) (u1 := .slice none 0 0) (u2 := .bool (undoL s)) HX2.out
        have e0 := (blk_cl (k := 0) hres rfl).1
        have e1 := (blk_cl (k := 1) hres rfl).1
        have e2 := (blk_cl (k := 2) hres rfl).1
        refine bodyPost_ret (v := .tuple #[.agg #[.string ⟨(cutI s).1.toArray⟩, .slice none 0 0, .bool (undoL s)], .bool true]) (by simp [results, Tryz.results59, go_sem, e0, e1, e2]) rfl ⟨none, 0, 0, ?_, ?_, Nat.le_refl _, ?_⟩
        · rw [HT.out.1, HT.out.2]; rfl
        · rw [HT.out.2, HA0.out]; exact sstr_none _ _
        · exact ((HB2.out.setCell (p := ⟨w.heap.size, 0, none⟩) (Nat.le_refl _) _).setCell (p := ⟨w.heap.size, 1, none⟩) (Nat.le_refl _) _).setCell (p := ⟨w.heap.size, 2, none⟩) (Nat.le_refl _) _
      · have HF := Lib.hid (fromI_ne (s := s) (by rw [eT]; exact hT))
        have q0 : (T.toList == s.toList) = false := by
          rw [beq_eq_false_iff_ne]
          intro e
          rw [toList_bs, toList_bs] at e
          exact hT (by have := congrArg ofBs e; rwa [of_bs, of_bs] at this)
        clear hT eT
        go_wp2_with fail
        have hres := set3 (u0 := .string ⟨#[]⟩) (u1 := .slice none 0 0) (u2 := .bool false) HX2.out
        have e0 := (blk_cl (k := 0) hres rfl).1
        have e1 := (blk_cl (k := 1) hres rfl).1
        have e2 := (blk_cl (k := 2) hres rfl).1
        refine bodyPost_ret (v := .tuple #[.agg #[.string ⟨#[]⟩, .slice none 0 0, .bool false], .bool false]) (by simp [results, Tryz.results59, go_sem, e0, e1, e2]) rfl ⟨none, 0, 0, ?_, ?_, Nat.le_refl _, ?_⟩
        · rw [from_not HF.out, HF.out]; rfl
        · rw [from_not HF.out]; exact sstr_none _ _
        · exact ((HB2.out.setCell (p := ⟨w.heap.size, 0, none⟩) (Nat.le_refl _) _).setCell (p := ⟨w.heap.size, 1, none⟩) (Nat.le_refl _) _).setCell (p := ⟨w.heap.size, 2, none⟩) (Nat.le_refl _) _
    · have hq : ((cutI s).2.1 == [45]) = false := beq_eq_false_iff_ne.2 hy
      have HA1 := Lib.hid (show (rdI s).after = (cutW 44 (cutI s).2.1).map ofBs by rw [HAY.out, if_neg hy])
      have HY0 := Lib.hid (heap_new (w := wd) (o := .cells #[.string ⟨(cutI s).1.toArray⟩, .slice none 0 0, .bool (undoL s)] 35) rfl)
      have HB1 := Lib.hid (HBD.out.alloc HBD.out.size (.cells #[.string ⟨(cutI s).1.toArray⟩, .slice none 0 0, .bool (undoL s)] 35))
      have HX1 := Lib.hid (heap_old (o := .cells #[.string ⟨(cutI s).1.toArray⟩, .slice none 0 0, .bool (undoL s)] 35) HXD.out)
      have hl2 := (cutI_len s).2
      go_wp2_with fail
      obtain ⟨m2, hm2⟩ := HM.out.below HB1.out rfl
      refine (Tryz.strings_Split ⟨(cutI s).2.1.toArray⟩ ⟨#[44]⟩ m2 _ (by show (cutI s).2.1.toArray.size < _; simp; omega) hm2 (by decide)).mono ?_
      rintro e w1 ⟨rfl, rfl⟩
      clear hm2
      have hcnt : Lib.countB (⟨(cutI s).2.1.toArray⟩ : ByteArray) ⟨#[44]⟩ + 1 = (rdI s).after.length := by
        have := countB_cut 44 (ofBs (cutI s).2.1)
        rw [bs_of] at this
        rw [HA1.out, List.length_map]
        exact this
      have hspl : Lib.splitB ⟨#[44]⟩ 0 (Lib.countB (⟨(cutI s).2.1.toArray⟩ : ByteArray) ⟨#[44]⟩) ⟨(cutI s).2.1.toArray⟩ = (rdI s).after := by
        have := splitB_cut 44 (ofBs (cutI s).2.1)
        rw [bs_of] at this
        rw [HA1.out]
        exact this
      rw [hcnt, hspl]
      have hsz1 : (wd.alloc (.cells #[.string ⟨(cutI s).1.toArray⟩, .slice none 0 0, .bool (undoL s)] 35)).heap.size = w.heap.size + 1 + 1 := by rw [World.size_alloc, hsz]
      rw [hsz1]
      have hz3 := heap_new (w := wd.alloc (.cells #[.string ⟨(cutI s).1.toArray⟩, .slice none 0 0, .bool (undoL s)] 35)) (o := .cells ((rdI s).after.map Value.string).toArray 9) (b := w.heap.size + 1 + 1) hsz1.symm
      have hy3 := heap_old (o := .cells ((rdI s).after.map Value.string).toArray 9) HY0.out
      rw [hsz] at hy3
      have hx3 := heap_old (o := .cells ((rdI s).after.map Value.string).toArray 9) HX1.out
      have hb3 := HB1.out.alloc HB1.out.size (.cells ((rdI s).after.map Value.string).toArray 9)
      generalize (wd.alloc (.cells #[.string ⟨(cutI s).1.toArray⟩, .slice none 0 0, .bool (undoL s)] 35)).alloc (.cells ((rdI s).after.map Value.string).toArray 9) = w3 at *
      have HS3 := Lib.hid (sstr_block hz3)
      have HX3 := Lib.hid hx3
      have HY3 := Lib.hid hy3
      have HB3 := Lib.hid hb3
      clear hz3 hx3 hy3 hb3 hcnt hspl hsz1 HX1 HY0 HB1
      have y0a := (blk_cl (k := 0) HY3.out rfl).1
      have y1a := (blk_cl (k := 1) HY3.out rfl).1
      have y1b := (blk_cl (k := 1) HY3.out rfl).2
      have y2a := (blk_cl (k := 2) HY3.out rfl).1
      have HCC := Lib.hid (Nat.le_refl (rdI s).after.length)
      go_wp2_with fail
      have hy4 := set31 (u := .slice (some ⟨w.heap.size + 1 + 1, 0, none⟩) (rdI s).after.length (rdI s).after.length) HY3.out
      have hx4 : (w3.setCell ⟨w.heap.size + 1, 1, none⟩ (.slice (some ⟨w.heap.size + 1 + 1, 0, none⟩) (rdI s).after.length (rdI s).after.length)).heap[w.heap.size]? = some (.cells #[.string ⟨#[]⟩, .slice none 0 0, .bool false] 35 (0, 0)) := (Below.heap_setCell w3 ⟨w.heap.size + 1, 1, none⟩ _ w.heap.size (by intro e; simp at e)).trans HX3.out
      have hb4 := HB3.out.setCell (p := ⟨w.heap.size + 1, 1, none⟩) (Nat.le_succ _) (.slice (some ⟨w.heap.size + 1 + 1, 0, none⟩) (rdI s).after.length (rdI s).after.length)
      have hs4 := HS3.out.set (o := 1) (u := .slice (some ⟨w.heap.size + 1 + 1, 0, none⟩) (rdI s).after.length (rdI s).after.length) (Nat.lt_succ_self _)
      generalize w3.setCell ⟨w.heap.size + 1, 1, none⟩ (.slice (some ⟨w.heap.size + 1 + 1, 0, none⟩) (rdI s).after.length (rdI s).after.length) = w4 at *
      refine (stepTextI_any _ _ _ (rdI s) _ w4 hs4.hat HOK.out (Nat.le_refl _)).mono ?_
      rintro e w2 ⟨rfl, hb2⟩
      have hx2 := (hb2.block _ (heap_lt hx4)).trans hx4
      have hy2 := (hb2.block _ (heap_lt hy4)).trans hy4
      have HB2 := Lib.hid (hb4.trans (hb2.mono hb4.size))
      have HSS := Lib.hid (hs4.below hb2)
      clear hb2 hx4 hy4 hb4 hs4 HX3 HY3 HB3 HS3 y0a y1a y1b y2a hq hy
      generalize eT : textS (rdI s) = T
      have r0a := (blk_cl (k := 0) hx2 rfl).1
      have r0b := (blk_cl (k := 0) hx2 rfl).2
      have r1a := (blk_cl (k := 1) hx2 rfl).1
      have r1b := (blk_cl (k := 1) hx2 rfl).2
      have r2a := (blk_cl (k := 2) hx2 rfl).1
      have r2b := (blk_cl (k := 2) hx2 rfl).2
      have y0a := (blk_cl (k := 0) hy2 rfl).1
      have y1a := (blk_cl (k := 1) hy2 rfl).1
      have y2a := (blk_cl (k := 2) hy2 rfl).1
      have HX2 := Lib.hid hx2
      clear hx2 hy2
      by_cases hT : T = s
      · have HT := Lib.hid (fromI_eq hok (eT.trans hT))
        have q0 : (T.toList == s.toList) = true := by rw [hT]; simp
        clear hT eT
        go_wp2_with fail
        have hres := set3 (u0 := .string ⟨(cutI s).1.toArray⟩) (u1 := .slice (some ⟨w.heap.size + 1 + 1, 0, none⟩) (rdI s).after.length (rdI s).after.length) (u2 := .bool (undoL s)) HX2.out
        have e0 := (blk_cl (k := 0) hres rfl).1
        have e1 := (blk_cl (k := 1) hres rfl).1
        have e2 := (blk_cl (k := 2) hres rfl).1
        refine bodyPost_ret (v := .tuple #[.agg #[.string ⟨(cutI s).1.toArray⟩, .slice (some ⟨w.heap.size + 1 + 1, 0, none⟩) (rdI s).after.length (rdI s).after.length, .bool (undoL s)], .bool true]) (by simp [results, Tryz.results59, go_sem, e0, e1, e2]) rfl ⟨some ⟨w.heap.size + 1 + 1, 0, none⟩, (rdI s).after.length, (rdI s).after.length, ?_, ?_, Nat.le_refl _, ?_⟩
        · rw [HT.out.1, HT.out.2]; rfl
        · rw [HT.out.2]; exact (((HSS.out.set (by omega)).set (by omega)).set (by omega)).mono (by omega)
        · exact ((HB2.out.setCell (p := ⟨w.heap.size, 0, none⟩) (Nat.le_refl _) _).setCell (p := ⟨w.heap.size, 1, none⟩) (Nat.le_refl _) _).setCell (p := ⟨w.heap.size, 2, none⟩) (Nat.le_refl _) _
      · have HF := Lib.hid (fromI_ne (s := s) (by rw [eT]; exact hT))
        have q0 : (T.toList == s.toList) = false := by
          rw [beq_eq_false_iff_ne]
          intro e
          rw [toList_bs, toList_bs] at e
          exact hT (by have := congrArg ofBs e; rwa [of_bs, of_bs] at this)
        clear hT eT
        go_wp2_with fail
        have hres := set3 (u0 := .string ⟨#[]⟩) (u1 := .slice none 0 0) (u2 := .bool false) HX2.out
        have e0 := (blk_cl (k := 0) hres rfl).1
        have e1 := (blk_cl (k := 1) hres rfl).1
        have e2 := (blk_cl (k := 2) hres rfl).1
        refine bodyPost_ret (v := .tuple #[.agg #[.string ⟨#[]⟩, .slice none 0 0, .bool false], .bool false]) (by simp [results, Tryz.results59, go_sem, e0, e1, e2]) rfl ⟨none, 0, 0, ?_, ?_, Nat.le_refl _, ?_⟩
        · rw [from_not HF.out, HF.out]; rfl
        · rw [from_not HF.out]; exact sstr_none _ _
        · exact ((HB2.out.setCell (p := ⟨w.heap.size, 0, none⟩) (Nat.le_refl _) _).setCell (p := ⟨w.heap.size, 1, none⟩) (Nat.le_refl _) _).setCell (p := ⟨w.heap.size, 2, none⟩) (Nat.le_refl _) _
end Go.Proofs.YthdfefgianokgaaGreatDoor

/- The reference's cut. -/
namespace Go.Proofs.YthdfefgianokgaaGreatDoor
open Go.RowKit

def prep (p : Bytes) : List Bytes → List Bytes
  | [] => [p]
  | h :: t => (p ++ h) :: t
theorem prep_nil {l : List Bytes} (h : l ≠ []) : prep [] l = l := by
  cases l with
  | nil => exact absurd rfl h
  | cons x t => rfl
def CutInv (b : UInt8) (q : Bytes) (out : List Str) (p k : Nat) : Prop := out.map bs ++ prep ((q.drop p).take (k - p)) (cutW b (q.drop k)) = cutW b q
theorem cinv_start (b : UInt8) (q : Bytes) : CutInv b q [] 0 0 := by
  unfold CutInv
  simp [prep_nil (cutW_ne b q)]
theorem cinv_hit {b : UInt8} {q : Bytes} {out : List Str} {p k : Nat} (h : CutInv b q out p k) (hk : k < q.length) (e : q[k] = b) : CutInv b q (out ++ [ofBs ((q.drop p).take (k - p))]) (k + 1) (k + 1) := by
  unfold CutInv at h ⊢
  rw [List.drop_eq_getElem_cons hk, cutW, if_pos e] at h
  rw [← h, List.map_append, Nat.sub_self, List.take_zero, prep_nil (cutW_ne b _)]
  simp [prep, bs_of]
theorem cinv_miss {b : UInt8} {q : Bytes} {out : List Str} {p k : Nat} (h : CutInv b q out p k) (hk : k < q.length) (e : q[k] ≠ b) (hp : p ≤ k) : CutInv b q out p (k + 1) := by
  unfold CutInv at h ⊢
  have e2 : (q.drop p).take (k + 1 - p) = (q.drop p).take (k - p) ++ [q[k]] := by
    rw [show k + 1 - p = (k - p) + 1 by omega, List.take_succ_eq_append_getElem (by rw [List.length_drop]; omega), List.getElem_drop]
    simp [show p + (k - p) = k by omega]
  rw [List.drop_eq_getElem_cons hk, cutW, if_neg e] at h
  rw [← h, e2]
  cases hx : cutW b (q.drop (k + 1)) with
  | nil => exact absurd hx (cutW_ne b _)
  | cons y t => simp [prep]
theorem cinv_end {b : UInt8} {q : Bytes} {out : List Str} {p k : Nat} (h : CutInv b q out p k) (hk : k = q.length) : (out ++ [ofBs (q.drop p)]) = (cutW b q).map ofBs := by
  unfold CutInv at h
  subst hk
  have e : (q.drop p).take (q.length - p) = q.drop p := List.take_of_length_le (by rw [List.length_drop]; omega)
  rw [e, List.drop_length] at h
  rw [← h]
  have e2 : (ofBs ∘ bs) = id := by funext x; exact of_bs x
  rw [List.map_append, List.map_map, e2, List.map_id]
  simp [prep, cutW]
theorem bs_extract (s : Str) (a b : Nat) : s.extract a b = ofBs (((bs s).drop a).take (b - a)) := by
  have h := Lib.extract_data s a b
  have h2 := of_bs (s.extract a b)
  rw [← h2]
  exact congrArg ofBs h

set_option maxRecDepth 100000 in
theorem l41Cut_any (s : Str) (b : UInt8) (w : World) (hs : s.size ≤ 1048576) :
    Calls Tryz.prog 42 #[.string s, .int .u8 b.toNat] w fun e w' => ∃ A c, e = .returned (.slice A (cutW b (bs s)).length c) ∧ SStr w' w.heap.size A (cutW b (bs s)).length ((cutW b (bs s)).map ofBs) ∧ Below w.heap.size w w' := by
  have hlen : (bs s).length = s.size := bs_len s
  go_enter Tryz.func42, Tryz.ntmps42
  go_wp2_with fail
  go_loopw [5, 6, 7] (fun v fr i wr => ∃ (m k p : Nat) (out : List Str), k ≤ s.size ∧ p ≤ k ∧ m ≤ k ∧ fr = .int .i64 p ∧ i = .int .i64 k ∧ Own 9 1 w wr v m (out.map Value.string) ∧ CutInv b (bs s) out p k) (fun _ _ i _ => s.size - (intOf i).toNat)
  case atStart => exact ⟨0, 0, 0, [], Nat.zero_le _, Nat.le_refl _, Nat.le_refl _, rfl, rfl, ⟨World.ownsRow_made _ _ _ (Nat.le_refl _) (by unfold maxLen; omega) rfl, (Below.refl _ _).alloc (Nat.le_refl _) _⟩, cinv_start _ _⟩
  case round =>
    obtain ⟨m, k, p, out, hk, hp, hm, rfl, rfl, how, hi⟩ := hrel
    have HW := Lib.hid how; clear how
    have HI := Lib.hid hi; clear hi
    by_cases hlt : k < s.size
    · have hkb : k < (bs s).length := by omega
      obtain ⟨x, hx⟩ : ∃ x, s[k]'hlt = x := ⟨_, rfl⟩
      have hxb : (bs s)[k]'hkb = x := hx
      by_cases he : x = b
      · have hq : ((x.toNat : Int) == (b.toNat : Int)) = true := by rw [he]; simp
        have HI2 := Lib.hid (cinv_hit HI.out hkb (hxb.trans he))
        clear he hxb
        go_wp2_with (at_builtin; refine app_str w _ m out _ (s.extract p k) ?c0 rfl (.tmp 20) (.tmp 25) rfl rfl rfl ?c1 (by omega) ?_)
        case c0 => exact HW.out.alloc _
        case c1 => exact heap_new rfl
        intro v' w' how' hg'
        go_wp2_with fail
        go_roundw
        case rel => exact ⟨m + 1, k + 1, k + 1, out ++ [s.extract p k], by omega, by omega, by omega, by go_num, by go_num, by rw [List.map_append]; exact how', by rw [bs_extract]; exact HI2.out⟩
        case measure => simp [intOf]; omega
      · have hq : ((x.toNat : Int) == (b.toNat : Int)) = false := by
          rw [beq_eq_false_iff_ne]
          intro e
          exact he (UInt8.toNat_inj.1 (by omega))
        have HI2 := Lib.hid (cinv_miss HI.out hkb (fun e => he (hxb.symm.trans e)) hp)
        clear he hxb
        go_wp2_with fail
        go_roundw
        case rel => exact ⟨m, k + 1, p, out, by omega, by omega, by omega, rfl, by go_num, HW.out, HI2.out⟩
        case measure => simp [intOf]; omega
    · have HE := Lib.hid (cinv_end HI.out (by omega : k = (bs s).length))
      go_wp2_with (at_builtin; refine app_str w _ m out _ (s.extract p s.size) ?c0 rfl (.tmp 29) (.tmp 33) rfl rfl rfl ?c1 (by omega) ?_)
      case c0 => exact HW.out.alloc _
      case c1 => exact heap_new rfl
      intro v' w' how' hg'
      have hfin : out ++ [s.extract p s.size] = (cutW b (bs s)).map ofBs := by
        rw [← HE.out, bs_extract, List.take_of_length_le (by rw [List.length_drop]; omega)]
      go_wp2_with fail
      go_ret
      have how2 : Own 9 1 w w' v' (m + 1) ((out ++ [s.extract p s.size]).map Value.string) := by rw [List.map_append]; exact how'
      rw [hfin] at how2
      obtain ⟨A', c', rfl, hrs⟩ := own_sstr how2.row
      have hlm : m + 1 = (cutW b (bs s)).length := by have := hrs.1; rw [List.length_map] at this; exact this.symm
      rw [hlm] at hrs ⊢
      exact ⟨_, _, rfl, hrs, how2.below⟩
end Go.Proofs.YthdfefgianokgaaGreatDoor
