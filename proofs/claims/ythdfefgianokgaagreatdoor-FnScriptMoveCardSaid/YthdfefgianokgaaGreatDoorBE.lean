/- Contracts of functions and plain lemmas, joined. No condition but those that each states. -/
import Derived.Test.YthdfefgianokgaaGreatDoorCards
import Derived.Test.YthdfefgianokgaaGreatDoorTie
import Derived.WideKeyMaps2
import Derived.StringKeys
import Derived.OpenVars
import Derived.OpenShut
import Derived.ChangeMaps5
import Derived.Lay
import Derived.Lib.LaidIn
import Derived.Deep.RegionHeld3
import Derived.Test.YthdfefgianokgaaGreatDoorBA
import Derived.Test.YthdfefgianokgaaGreatDoorBB
import Derived.Test.YthdfefgianokgaaGreatDoorBC
import Derived.Test.YthdfefgianokgaaGreatDoorBD

/- The frame of a row that lists the two tables of words. -/
namespace Go.Proofs.YthdfefgianokgaaGreatDoor
open Go.ChangeShapes Go.WideShapes Go.ChangeAt Go.RowKit

theorem laid_mem {P : Program} {w : World} : ∀ {l : List (String × DataW Unit)} {ps : List MemPlace}, DataW.LaidVars P w l ps → ∀ {n : String} {d : DataW Unit}, (n, d) ∈ l →
    ∃ g t cs fuel p, P.globalNamed n = some g ∧ (P.globals[g]?).map (·.type) = some t ∧ w.var? P n = some cs ∧ DataW.trod (fun _ => ()) P w 0 (fun _ => true) false fuel t cs.toList = some (d, p)
  | [], _, _, _, _, h => by cases h
  | (n, d) :: r, ps, h, n', d', hm => by
    obtain ⟨g, t, cs, fuel, p, q, h1, h2, h3, h4, h5, _⟩ := h
    rcases List.mem_cons.1 hm with e | hm
    · cases e
      exact ⟨g, t, cs, fuel, p, h1, h2, h3, h4⟩
    · exact laid_mem h5 hm
theorem str_eq {s : Str} {l : List UInt8} : s = ⟨l.toArray⟩ ↔ l = s.data.toList := by
  constructor
  · rintro rfl; rfl
  · intro h
    cases s with
    | mk a => exact congrArg ByteArray.mk (by rw [h])
theorem ev_key (s : Str) : (Rows.laid_loop_example_sagaflows_impl_eventCommands (H := Unit)).atKey (.string s.data.toList) (.lit (.int .i64 0)) = .lit (.int .i64 (kindW s)) := by
  have e1 := str_eq (s := s) (l := [100, 111])
  have e2 := str_eq (s := s) (l := [102, 97, 105, 108])
  have e3 := str_eq (s := s) (l := [117, 110, 100, 111])
  unfold kindW Rows.laid_loop_example_sagaflows_impl_eventCommands DataW.atKey
  rw [show (⟨#[100, 111]⟩ : ByteArray) = ⟨([100, 111] : List UInt8).toArray⟩ from rfl, show (⟨#[102, 97, 105, 108]⟩ : ByteArray) = ⟨([102, 97, 105, 108] : List UInt8).toArray⟩ from rfl, show (⟨#[117, 110, 100, 111]⟩ : ByteArray) = ⟨([117, 110, 100, 111] : List UInt8).toArray⟩ from rfl]
  simp only [e1, e2, e3]
  generalize s.data.toList = l
  clear e1 e2 e3
  by_cases h1 : [100, 111] = l
  · subst h1; rfl
  by_cases h2 : [102, 97, 105, 108] = l
  · subst h2; rfl
  by_cases h3 : [117, 110, 100, 111] = l
  · subst h3; rfl
  rw [if_neg h1, if_neg h2, if_neg h3]
  have b1 := beq_false_of_ne h1
  have b2 := beq_false_of_ne h2
  have b3 := beq_false_of_ne h3
  simp only [List.find?, Lit.sameKey, b1, b2, b3]
theorem ch_key (s : Str) : (Rows.laid_loop_example_sagaflows_impl_changeCommands (H := Unit)).atKey (.string s.data.toList) (.lit (.int .i64 0)) = .lit (.int .i64 (chgW s)) := by
  have e1 := str_eq (s := s) (l := [97, 100, 100])
  have e2 := str_eq (s := s) (l := [100, 114, 111, 112])
  have e3 := str_eq (s := s) (l := [97, 102, 116, 101, 114])
  have e4 := str_eq (s := s) (l := [109, 97, 114, 107])
  unfold chgW Rows.laid_loop_example_sagaflows_impl_changeCommands DataW.atKey
  rw [show (⟨#[97, 100, 100]⟩ : ByteArray) = ⟨([97, 100, 100] : List UInt8).toArray⟩ from rfl, show (⟨#[100, 114, 111, 112]⟩ : ByteArray) = ⟨([100, 114, 111, 112] : List UInt8).toArray⟩ from rfl, show (⟨#[97, 102, 116, 101, 114]⟩ : ByteArray) = ⟨([97, 102, 116, 101, 114] : List UInt8).toArray⟩ from rfl, show (⟨#[109, 97, 114, 107]⟩ : ByteArray) = ⟨([109, 97, 114, 107] : List UInt8).toArray⟩ from rfl]
  simp only [e1, e2, e3, e4]
  generalize s.data.toList = l
  clear e1 e2 e3 e4
  by_cases h1 : [97, 100, 100] = l
  · subst h1; rfl
  by_cases h2 : [100, 114, 111, 112] = l
  · subst h2; rfl
  by_cases h3 : [97, 102, 116, 101, 114] = l
  · subst h3; rfl
  by_cases h4 : [109, 97, 114, 107] = l
  · subst h4; rfl
  rw [if_neg h1, if_neg h2, if_neg h3, if_neg h4]
  have b1 := beq_false_of_ne h1
  have b2 := beq_false_of_ne h2
  have b3 := beq_false_of_ne h3
  have b4 := beq_false_of_ne h4
  simp only [List.find?, Lit.sameKey, b1, b2, b3, b4]
/-- A table of words that reads as a datum: what it answers. -/
theorem words_of {n : String} {g : Nat} {d : DataW Unit} {f : Str → Int} {es : List (Lit × DataW Unit)} {W : World} {l : List (String × DataW Unit)} (h : laidMet Tryz.prog l W) (hm : (n, d) ∈ l) (hd : d = .map es) (hg : Tryz.prog.globalNamed n = some g) (ht : (Tryz.prog.globals[g]?).map (·.type) = some 62)
    (hk : ∀ s : Str, d.atKey (.string s.data.toList) (.lit (.int .i64 0)) = .lit (.int .i64 (f s))) :
    ∃ b e k, W.cell? ⟨g, 0, none⟩ = some (.map (some b)) ∧ W.heap[b]? = some (.map e k) ∧ ∀ (w' : World) (s : Str), w'.heap[b]? = some (.map e k) → s.size ≤ maxLen → (Instr.lookup 62 (.map (some b)) (.string s) false).run Tryz.prog w' = .ok (.int .i64 (f s)) w' := by
  obtain ⟨ps, hl, _, _⟩ := h
  obtain ⟨g', t', cs, fu, p, h1, h2, h3, h4⟩ := laid_mem hl hm
  obtain rfl := Option.some.inj (hg.symm.trans h1)
  obtain rfl := Option.some.inj (ht.symm.trans h2)
  rcases Go.WideMaps.open_map Tryz.underlying62 Tryz.underlying3 h4 with ⟨_, hx⟩ | ⟨b, es', k, hcs, hb, _, F, hx⟩
  · rw [hd] at hx; simp at hx
  simp only [Prod.mk.injEq] at hx
  have hcell : W.cell? ⟨g, 0, none⟩ = some (.map (some b)) := by
    have := World.var?_cell hg h3 0
    rw [Array.eq_one_of_toList hcs] at this
    simpa using this
  refine ⟨b, es', k, hcell, hb, fun w' s hb' hs => ?_⟩
  obtain ⟨z, hrun, _, hat⟩ := Go.WideMaps.fit_lookup (w := w') (Go.WideMaps.string_law Tryz.underlying9) Tryz.underlying62 (by kernel_rfl) hb' F (Go.WideMaps.keyOf_string_mk (s := s) Tryz.underlying9 hs)
  rw [← hx.1, hk s] at hat
  cases hat
  exact hrun
theorem maps_of_laid {W : World} (h : laidMetH Tryz.prog Rows.fnExactExecuteRow.laid W) : Maps W := by
  rw [MakeChecks.laidMetH_plain _ _ _ (by kernel_rfl)] at h
  obtain ⟨b1, e1, k1, h1, h2, h3⟩ := words_of (n := "loop.example/sagaflows/impl.eventCommands") (d := Rows.laid_loop_example_sagaflows_impl_eventCommands) h (.tail _ (.tail _ (.tail _ (.tail _ (.head _))))) rfl (by kernel_rfl) (by kernel_rfl) ev_key
  obtain ⟨b2, e2, k2, h4, h5, h6⟩ := words_of (n := "loop.example/sagaflows/impl.changeCommands") (d := Rows.laid_loop_example_sagaflows_impl_changeCommands) h (.tail _ (.tail _ (.tail _ (.tail _ (.tail _ (.head _)))))) rfl (by kernel_rfl) (by kernel_rfl) ch_key
  exact ⟨b1, b2, e1, e2, k1, k2, h1, h4, h2, h5, h3, h6⟩

section
variable {H : Type} {enc : TypeId × Value → H} {P : Program}
/-- The row's last step for a law that names variables: it returned true, all reads as it did. -/
theorem post_lawV {f : Func} {s : ChangeSpec} {W W' : World} {args : Array Value} {ds gs : List (DataW H)} {before pa pv : List MemPlace}
    (hW : DataW.Whole enc P f.params.toList s.vars false W args.toList ds gs before)
    (hr : f.resultTypes = #[4]) (hbool : P.underlying 4 = some .bool)
    (hres : (s.fn H (ds ++ gs)).results = [.lit (.bool true)]) (hargs : (s.fn H (ds ++ gs)).args = ds) (hvars : (s.fn H (ds ++ gs)).vars = gs)
    (ht : DataW.TrodAll enc P W' 0 (fun b => decide (b < W.heap.size)) true f.params.toList args.toList ds pa)
    (hv : DataW.TrodVars enc P W' (fun b => decide (b < W.heap.size)) s.vars gs pv) (hb : Below W.heap.size W W') :
    s.post enc P f false true false false W args (.bool true) W' := by
  refine ⟨ds, gs, before, [], pa, pv, hW, ?_, ?_, ?_, hb.frame _, fun h => by cases h⟩
  · rw [hres, hr]
    exact trodAll_mk1 (shut_bool hbool true)
  · rw [hargs]; exact ht
  · rw [hvars]; exact hv
end

/-- The two tables, put into a heap. -/
def mapsIn (w : World) : World :=
  let h1 := w.heap.setIfInBounds 0 (.cells #[.map (some w.heap.size)] 62)
  let h2 := h1.setIfInBounds 1 (.cells #[.map (some (w.heap.size + 1))] 62)
  let h3 := h2.push (.map #[⟨.string ⟨#[100, 111]⟩, .int .i64 1, 0⟩, ⟨.string ⟨#[102, 97, 105, 108]⟩, .int .i64 2, 1⟩, ⟨.string ⟨#[117, 110, 100, 111]⟩, .int .i64 3, 2⟩] 3)
  let h4 := h3.push (.map #[⟨.string ⟨#[97, 100, 100]⟩, .int .i64 1, 0⟩, ⟨.string ⟨#[100, 114, 111, 112]⟩, .int .i64 2, 1⟩, ⟨.string ⟨#[97, 102, 116, 101, 114]⟩, .int .i64 3, 2⟩, ⟨.string ⟨#[109, 97, 114, 107]⟩, .int .i64 4, 3⟩] 4)
  { w with heap := h4 }
/-- The tables of the library, by name. -/
def greatL : List String := ["math/bits.deBruijn32tab", "math/bits.deBruijn64tab", "internal/strconv.uint64pow10", "unicode/utf8.acceptRanges", "unicode/utf8.first"]
set_option maxRecDepth 100000 in
theorem start_met (os : Os) (args : Array Value) : laidMetH Tryz.prog Rows.fnExactExecuteRow.laid ((((mapsIn (World.holding Tryz.prog os ⟨#[], #[], []⟩)).layVars Tryz.prog (Rows.fnExactExecuteRow.laid.filter fun x => greatL.contains x.1)).forCall (fun _ _ => 0) ⟨#[], args, []⟩).memory) := by
  rw [MakeChecks.laidMetH_plain _ _ _ (by kernel_rfl)]
  have h : laidMet Tryz.prog Rows.fnExactExecuteRow.laid ((mapsIn (World.holding Tryz.prog os ⟨#[], #[], []⟩)).layVars Tryz.prog (Rows.fnExactExecuteRow.laid.filter fun x => greatL.contains x.1)) :=
    laidMet_layVars (w0 := mapsIn (World.holding Tryz.prog os ⟨#[], #[], []⟩)) greatL [0, 1, (World.holding Tryz.prog os ⟨#[], #[], []⟩).heap.size, (World.holding Tryz.prog os ⟨#[], #[], []⟩).heap.size + 1] rfl (by kernel_rfl) (by kernel_rfl) (LaidIn.of_run _ 8 (by kernel_rfl) (by kernel_rfl) (by kernel_rfl) (by kernel_rfl))
  exact h.of_heap (by simp [World.memory, World.forCall, Input.heap])
end Go.Proofs.YthdfefgianokgaaGreatDoor

/- Plain laws of scripts: what is behind the last newline counts for nothing; a line more; the last line. No program in sight. -/
namespace Go.Proofs.YthdfefgianokgaaGreatDoor

/-- Where the last line that is whole ends. -/
def EndAt (s : Str) (k : Nat) : Prop := k ≤ (bs s).length ∧ (k = 0 ∨ ∃ h : k - 1 < (bs s).length, 0 < k ∧ (bs s)[k - 1] = 10) ∧ ∀ j (h : j < (bs s).length), k ≤ j → (bs s)[j] ≠ 10
/-- Where the last line begins, the newline at the end aside. -/
def LastAt (s : Str) (k : Nat) : Prop := k ≤ (bs s).length ∧ (k = 0 ∨ ∃ h : k < (bs s).length, 0 < k ∧ (bs s)[k - 1]'(by omega) = 10) ∧ ∀ j (h : j + 1 < (bs s).length), k ≤ j → (bs s)[j]'(by omega) ≠ 10
theorem LastAt.uniq {s : Str} {a b : Nat} (h : LastAt s a) (k : LastAt s b) : a = b := by
  rcases Nat.lt_trichotomy a b with hab | hab | hab
  · rcases k.2.1 with e | ⟨h1, h2, h3⟩
    · omega
    · exact absurd h3 (h.2.2 (b - 1) (by omega) (by omega))
  · exact hab
  · rcases h.2.1 with e | ⟨h1, h2, h3⟩
    · omega
    · exact absurd h3 (k.2.2 (a - 1) (by omega) (by omega))
/-- A text of whole lines. -/
def Whole10 (l : Bytes) : Prop := l = [] ∨ ∃ p, l = p ++ [10]
theorem whole_app {a b : Bytes} (ha : Whole10 a) (hb : Whole10 b) : Whole10 (a ++ b) := by
  rcases hb with rfl | ⟨p, rfl⟩
  · rw [List.append_nil]; exact ha
  · exact .inr ⟨a ++ p, by simp⟩
theorem end_parts {s : Str} {k : Nat} (h : EndAt s k) : Whole10 ((bs s).take k) ∧ ∀ x ∈ (bs s).drop k, x ≠ 10 := by
  obtain ⟨h1, h2, h3⟩ := h
  refine ⟨?_, fun x hx => ?_⟩
  · rcases h2 with rfl | ⟨h4, h5, h6⟩
    · exact .inl (by simp)
    · refine .inr ⟨(bs s).take (k - 1), ?_⟩
      have e := List.take_succ_eq_append_getElem h4
      rw [h6, show k - 1 + 1 = k by omega] at e
      exact e
  · obtain ⟨i, hi, rfl⟩ := List.mem_iff_getElem.1 hx
    rw [List.length_drop] at hi
    rw [List.getElem_drop]
    exact h3 (k + i) (by omega) (by omega)
theorem cut_app {b : UInt8} (y : Bytes) : ∀ x : Bytes, cutW b (x ++ b :: y) = cutW b x ++ cutW b y
  | [] => by show cutW b (b :: y) = [[]] ++ _; rw [cutW, if_pos rfl]; rfl
  | c :: x => by
    have ih := cut_app (b := b) y x
    show cutW b (c :: (x ++ b :: y)) = _
    rw [cutW, cutW, ih]
    split
    · rfl
    · cases hx : cutW b x with
      | nil => exact absurd hx (cutW_ne b x)
      | cons h t => rfl
theorem cut_whole {l r : Bytes} (h : Whole10 l) : cutW 10 (l ++ r) = (cutW 10 l).dropLast ++ cutW 10 r := by
  rcases h with rfl | ⟨p, rfl⟩
  · rfl
  · have e1 : cutW 10 (p ++ [10] ++ r) = cutW 10 p ++ cutW 10 r := by
      have := cut_app (b := 10) r p
      simpa using this
    have e2 : cutW 10 (p ++ [10]) = cutW 10 p ++ [[]] := cut_app (b := 10) [] p
    rw [e1, e2, List.dropLast_concat]
/-- The whole lines of a text. -/
def wholeOf (s : Str) (k : Nat) : Str := s.extract 0 k
theorem bs_whole (s : Str) (k : Nat) : bs (wholeOf s k) = (bs s).take k := by
  unfold wholeOf
  rw [bs_extract, bs_of]
  simp
theorem allL_end {s : Str} {k : Nat} (h : EndAt s k) : allL (wholeOf s k) = allL s := by
  obtain ⟨h1, h2⟩ := end_parts h
  unfold allL
  have e : cutW 10 (bs s) = (cutW 10 ((bs s).take k)).dropLast ++ [(bs s).drop k] := by
    rw [← cutW_none h2, ← cut_whole h1, List.take_append_drop]
  rw [bs_whole, e, List.map_append, List.map_cons, List.map_nil, List.dropLast_concat, List.map_dropLast]
theorem whole_size {s : Str} {k : Nat} (h : EndAt s k) : (wholeOf s k).size = k := by
  rw [← bs_len, bs_whole, List.length_take]
  have := h.1
  omega
theorem exe_cut {s : Str} {k : Nat} (h : EndAt s k) (hz : s.size ≤ 400) : exe (wholeOf s k) = exe s := by
  have hk := h.1
  rw [bs_len] at hk
  have h2 := whole_size h
  unfold exe
  rw [if_neg (by omega), if_neg (by omega), allL_end h]
theorem allL_more {s l : Str} {k : Nat} (h : EndAt s k) (hl : ∀ x ∈ bs l, x ≠ 10) : allL (wholeOf s k ++ (l ++ ⟨#[10]⟩)) = allL (wholeOf s k) ++ [l] := by
  obtain ⟨h1, _⟩ := end_parts h
  unfold allL
  have e0 : bs (wholeOf s k ++ (l ++ ⟨#[10]⟩)) = (bs s).take k ++ (bs l ++ [10]) := by rw [bs_app, bs_app, bs_whole]; rfl
  have e1 : cutW 10 (bs l ++ [10]) = [bs l, []] := cutW_hit (b := 10) [] hl
  rw [e0, cut_whole h1, e1, bs_whole]
  rw [show ([bs l, []] : List Bytes) = [bs l] ++ [[]] from rfl, ← List.append_assoc, List.map_append, List.map_cons, List.map_nil, List.dropLast_concat, List.map_append, List.map_cons, List.map_nil, of_bs, List.map_dropLast]
theorem exe_more {s l : Str} {k : Nat} (h : EndAt s k) (hl : ∀ x ∈ bs l, x ≠ 10) (hz : (wholeOf s k ++ (l ++ ⟨#[10]⟩) : Str).size ≤ 400) :
    exe (wholeOf s k ++ (l ++ ⟨#[10]⟩)) = endX ((lineX (linesX st0 (allL (wholeOf s k))).1 l).1, (linesX st0 (allL (wholeOf s k))).2 ++ (lineX (linesX st0 (allL (wholeOf s k))).1 l).2) := by
  unfold exe
  rw [if_neg (by omega), allL_more h hl, linesX_app]
  congr 1
  show (_, _ ++ ((lineX (linesX st0 (allL (wholeOf s k))).1 l).2 ++ ⟨#[]⟩)) = _
  rw [app_nil]
  rfl

/-! ### The last line -/
theorem low_no {s : Str} (h : nameB s = true) : ∀ x ∈ bs s, x ≠ 10 := by
  intro x hx e
  unfold nameB at h
  simp only [Bool.and_eq_true] at h
  have := List.all_eq_true.1 h.2 x hx
  rw [e] at this
  exact absurd this (by decide)
theorem jn_no {xs : List Str} (h : ∀ j, j < xs.length → nameB (nth xs j) = true) : ∀ k, k ≤ xs.length → ∀ x ∈ bs (jnS xs k), x ≠ 10
  | 0, _, x, hx => by cases hx
  | k + 1, hk, x, hx => by
    have ih := jn_no h k (by omega)
    unfold jnS at hx
    split at hx
    · rw [bs_app, bs_app] at hx
      rcases List.mem_append.1 hx with hx | hx
      · rcases List.mem_append.1 hx with hx | hx
        · exact ih x hx
        · rw [show bs (⟨#[44]⟩ : Str) = [44] from rfl] at hx
          simp at hx
          subst hx
          decide
      · exact low_no (h k (by omega)) x hx
    · rw [bs_app] at hx
      rcases List.mem_append.1 hx with hx | hx
      · exact ih x hx
      · exact low_no (h k (by omega)) x hx
theorem state_no (st : Int) : ∀ x ∈ bs (stateS st), x ≠ 10 := by
  unfold stateS
  split
  · decide
  · split
    · decide
    · split <;> decide
theorem rt_no {s : St} (h : Good s) : ∀ x ∈ bs (rtT s.1 s.2.1 s.2.2), x ≠ 10 := by
  rw [rtT_yes h.2]
  intro x hx
  unfold rtS at hx
  rw [bs_app, bs_app] at hx
  rcases List.mem_append.1 hx with hx | hx
  · rcases List.mem_append.1 hx with hx | hx
    · exact state_no _ x hx
    · rw [show bs (⟨#[32]⟩ : Str) = [32] from rfl] at hx
      simp at hx
      subst hx
      decide
  · unfold namesS at hx
    split at hx
    · rw [show bs (⟨#[45]⟩ : Str) = [45] from rfl] at hx
      simp at hx
      subst hx
      decide
    · exact jn_no (run_sizes h.2).2 _ (Nat.le_refl _) x hx
theorem words_end (s : St) (ws : List Str) : ∃ p, bs (wordsX s ws).2 = p ++ [10] := by
  have h1 : ∀ x : Str, ∃ p, bs (x ++ ⟨#[10]⟩) = p ++ [10] := fun x => ⟨bs x, by rw [bs_app]; rfl⟩
  have hno : ∃ p, bs noT = p ++ [10] := ⟨[110, 111], rfl⟩
  have hok : ∃ p, bs okT = p ++ [10] := ⟨[111, 107], rfl⟩
  have hwh : ∃ p, bs whatT = p ++ [10] := ⟨[119, 104, 97, 116], rfl⟩
  have hst : ∃ p, bs staysT = p ++ [10] := ⟨[115, 116, 97, 121, 115], rfl⟩
  have hmv : ∃ p, bs movedT = p ++ [10] := ⟨[109, 111, 118, 101, 100], rfl⟩
  unfold wordsX
  split
  · unfold oneX
    split
    · exact hok
    · split
      · exact h1 _
      · split
        · exact h1 _
        · exact hwh
  · unfold twoX
    split
    · split
      · exact hok
      · exact hno
    · split
      · unfold flowX
        split
        · exact hno
        · split
          · exact hno
          · split
            · exact hst
            · exact hmv
      · exact hwh
  · exact hwh
theorem lines_whole (s : St) : ∀ ls : List Str, Whole10 (bs (linesX s ls).2)
  | [] => .inl rfl
  | l :: r => by
    show Whole10 (bs ((lineX s l).2 ++ (linesX (lineX s l).1 r).2))
    rw [bs_app]
    exact whole_app (.inr (words_end s _)) (lines_whole _ r)
/-- A text of whole lines, and one line more: the last line. -/
theorem last_at {o z : Str} (ho : Whole10 (bs o)) (hz : ∀ x ∈ bs z, x ≠ 10) : LastAt (o ++ (z ++ ⟨#[10]⟩)) o.size := by
  have e0 : bs (o ++ (z ++ ⟨#[10]⟩)) = bs o ++ (bs z ++ [10]) := by rw [bs_app, bs_app]; rfl
  have hl : (bs (o ++ (z ++ ⟨#[10]⟩))).length = (bs o).length + ((bs z).length + 1) := by rw [e0]; simp
  rw [← bs_len o]
  refine ⟨by omega, ?_, fun j hj hk => ?_⟩
  · rcases ho with e | ⟨p, e⟩
    · left; rw [e]; rfl
    · have hp : (bs o).length = p.length + 1 := by rw [e]; simp
      refine .inr ⟨by omega, by omega, ?_⟩
      have : (bs (o ++ (z ++ ⟨#[10]⟩)))[(bs o).length - 1]? = some 10 := by
        rw [e0, List.getElem?_append_left (by omega), e]
        simp
      exact (List.getElem?_eq_some_iff.1 this).2
  · have hj2 : j - (bs o).length < (bs z).length := by omega
    have : (bs (o ++ (z ++ ⟨#[10]⟩)))[j]? = some ((bs z)[j - (bs o).length]) := by
      rw [e0, List.getElem?_append_right (by omega), List.getElem?_append_left hj2, List.getElem?_eq_getElem hj2]
    have h2 := (List.getElem?_eq_some_iff.1 this).2
    rw [h2]
    exact hz _ (List.getElem_mem hj2)
theorem ext_last (o z : Str) : (o ++ z : Str).extract o.size (o ++ z : Str).size = z := by
  rw [bs_extract, bs_app, show (o ++ z : Str).size = (bs (o ++ z)).length from rfl, bs_app]
  have e : o.size = (bs o).length := rfl
  rw [e, List.drop_left, List.take_of_length_le (by simp), of_bs]
theorem ext_first (o z : Str) : (o ++ z : Str).extract 0 ((o ++ z : Str).size - z.size) = o := by
  rw [bs_extract, bs_app, bsz_app, Nat.add_sub_cancel]
  have e : o.size = (bs o).length := rfl
  rw [e]
  simp [of_bs]

/-- Unknown words: their line is answered, the rest is as it was. -/
theorem exe_what {s : Str} {k k2 : Nat} (h : EndAt s k) (hz : s.size + 4 ≤ 400) (hk : LastAt (exe (wholeOf s k)) k2) :
    let g := exe (wholeOf s k)
    let z := g.extract k2 g.size
    z.size ≤ g.size ∧ exe (wholeOf s k ++ ⟨#[122, 122, 122, 10]⟩) = g.extract 0 (g.size - z.size) ++ ⟨#[119, 104, 97, 116, 10]⟩ ++ z := by
  have hks := h.1
  rw [bs_len] at hks
  have hws := whole_size h
  have hg := good_lines (allL (wholeOf s k)) good0
  have e1 : exe (wholeOf s k) = (linesX st0 (allL (wholeOf s k))).2 ++ (rtT (linesX st0 (allL (wholeOf s k))).1.1 (linesX st0 (allL (wholeOf s k))).1.2.1 (linesX st0 (allL (wholeOf s k))).1.2.2 ++ ⟨#[10]⟩) := by
    unfold exe endX
    rw [if_neg (by omega), ByteArray.append_assoc]
  have e2 := exe_more (l := ⟨#[122, 122, 122]⟩) h (by decide) (by rw [bsz_app, bsz_app, hws]; show k + (3 + 1) ≤ 400; omega)
  have e3 : lineX (linesX st0 (allL (wholeOf s k))).1 ⟨#[122, 122, 122]⟩ = ((linesX st0 (allL (wholeOf s k))).1, whatT) := by
    unfold lineX
    rw [show (cutW 32 (bs (⟨#[122, 122, 122]⟩ : Str))).map ofBs = [(⟨#[122, 122, 122]⟩ : Str)] from rfl]
    show oneX _ _ = _
    unfold oneX
    rw [if_neg (by decide), if_neg (by decide), if_neg (by decide)]
  have hw := lines_whole st0 (allL (wholeOf s k))
  have hr := rt_no hg
  rw [e3] at e2
  generalize (linesX st0 (allL (wholeOf s k))).2 = o at *
  generalize (linesX st0 (allL (wholeOf s k))).1 = y at *
  have hk2 : k2 = o.size := by
    rw [e1] at hk
    exact hk.uniq (last_at hw hr)
  have ez : (exe (wholeOf s k)).extract k2 (exe (wholeOf s k)).size = rtT y.1 y.2.1 y.2.2 ++ ⟨#[10]⟩ := by rw [hk2, e1, ext_last]
  show ((exe (wholeOf s k)).extract k2 (exe (wholeOf s k)).size).size ≤ (exe (wholeOf s k)).size ∧ exe _ = (exe (wholeOf s k)).extract 0 ((exe (wholeOf s k)).size - ((exe (wholeOf s k)).extract k2 (exe (wholeOf s k)).size).size) ++ _ ++ (exe (wholeOf s k)).extract k2 (exe (wholeOf s k)).size
  rw [ez]
  refine ⟨by rw [e1, bsz_app o]; omega, ?_⟩
  rw [e1, ext_first]
  rw [show (⟨#[122, 122, 122, 10]⟩ : Str) = (⟨#[122, 122, 122]⟩ : Str) ++ ⟨#[10]⟩ from by decide, e2]
  unfold endX
  show (o ++ whatT) ++ _ ++ _ = _
  rw [ByteArray.append_assoc (a := o ++ whatT)]
  rfl
/-- A new run: the last line. -/
theorem exe_new {s : Str} {k k2 : Nat} (h : EndAt s k) (hz : s.size + 4 ≤ 400) (hk : LastAt (exe (wholeOf s k ++ ⟨#[110, 101, 119, 10]⟩)) k2) :
    (exe (wholeOf s k ++ ⟨#[110, 101, 119, 10]⟩)).extract k2 (exe (wholeOf s k ++ ⟨#[110, 101, 119, 10]⟩)).size = ⟨#[103, 111, 101, 115, 32, 45, 10]⟩ := by
  have hks := h.1
  rw [bs_len] at hks
  have hws := whole_size h
  have hg := good_lines (allL (wholeOf s k)) good0
  have e2 := exe_more (l := ⟨#[110, 101, 119]⟩) h (by decide) (by rw [bsz_app, bsz_app, hws]; show k + (3 + 1) ≤ 400; omega)
  have e3 : lineX (linesX st0 (allL (wholeOf s k))).1 ⟨#[110, 101, 119]⟩ = (((linesX st0 (allL (wholeOf s k))).1.1, (0, [])), okT) := by
    unfold lineX
    rw [show (cutW 32 (bs (⟨#[110, 101, 119]⟩ : Str))).map ofBs = [newT] from rfl]
    rfl
  have hw := lines_whole st0 (allL (wholeOf s k))
  rw [e3] at e2
  rw [show (⟨#[110, 101, 119, 10]⟩ : Str) = (⟨#[110, 101, 119]⟩ : Str) ++ ⟨#[10]⟩ from by decide] at hk ⊢
  generalize (linesX st0 (allL (wholeOf s k))).2 = o at *
  generalize (linesX st0 (allL (wholeOf s k))).1 = y at *
  have hrn := good_new hg.1
  have er : rtT y.1 0 [] = ⟨#[103, 111, 101, 115, 32, 45]⟩ := by rw [rtT_yes hrn]; decide
  have e4 : exe (wholeOf s k ++ (⟨#[110, 101, 119]⟩ ++ ⟨#[10]⟩)) = (o ++ okT) ++ ((⟨#[103, 111, 101, 115, 32, 45]⟩ : Str) ++ ⟨#[10]⟩) := by
    rw [e2]
    unfold endX
    show (o ++ okT) ++ rtT y.1 0 [] ++ _ = _
    rw [er, ByteArray.append_assoc (a := o ++ okT)]
  rw [e4] at hk ⊢
  have hk2 := hk.uniq (last_at (o := o ++ okT) (z := ⟨#[103, 111, 101, 115, 32, 45]⟩) (by rw [bs_app]; exact whole_app hw (.inr ⟨[111, 107], rfl⟩)) (by decide))
  rw [hk2, ext_last]
  decide
end Go.Proofs.YthdfefgianokgaaGreatDoor

/- The whole lines of a text, and its last line. -/
namespace Go.Proofs.YthdfefgianokgaaGreatDoor
open Go.RowKit

theorem whole_nil (s : Str) : (⟨#[]⟩ : Str) = wholeOf s 0 := by
  rw [← of_bs (wholeOf s 0), bs_whole]
  rfl
theorem ext_all (s : Str) : s = s.extract 0 s.size := by
  rw [bs_extract]
  have e : s.size = (bs s).length := rfl
  rw [List.drop_zero, e, Nat.sub_zero, List.take_length, of_bs]

theorem exe_size (t : Str) : (exe t).size ≤ 400000 := by
  unfold exe
  split
  · decide
  · rename_i h
    have h1 := linesX_size st0 (allL t)
    have h2 := cutW_len 10 (bs t)
    rw [bs_len] at h2
    have h3 : (allL t).length ≤ 400 := by
      unfold allL
      rw [List.length_dropLast, List.length_map]
      omega
    have h4 := Nat.mul_le_mul_right 900 h3
    have h5 := rtT_size (linesX st0 (allL t)).1.1 (linesX st0 (allL t)).1.2.1 (linesX st0 (allL t)).1.2.2
    unfold endX
    rw [bsz_app, bsz_app]
    show _ + _ + 1 ≤ 400000
    omega

set_option maxRecDepth 100000 in
set_option maxHeartbeats 4000000 in
theorem completeLines_any (s : Str) (w : World) (hs : s.size ≤ 1048576) :
    Calls Tryz.prog 16 #[.string s] w fun e w' => ∃ k, EndAt s k ∧ e = .returned (.string (wholeOf s k)) ∧ w = w' := by
  go_enter Tryz.func16, Tryz.ntmps16
  go_wp2_with fail
  go_loopw [3] (fun i wr => ∃ k : Nat, k ≤ s.size ∧ i = .int .i64 (k : Int) ∧ (∀ j (h : j < (bs s).length), k ≤ j → (bs s)[j] ≠ 10) ∧ w = wr) (fun i _ => (intOf i).toNat)
  case atStart => exact ⟨s.size, Nat.le_refl _, rfl, fun j h hk => by rw [bs_len] at h; omega, rfl⟩
  case round =>
    obtain ⟨k, hk, rfl, hno, rfl⟩ := hrel
    have HNO := Lib.hid hno; clear hno
    by_cases h0 : 0 < k
    · obtain ⟨m, rfl⟩ : ∃ m, k = m + 1 := ⟨k - 1, by omega⟩
      have hm : m < s.size := by omega
      obtain ⟨x, hx⟩ : ∃ x, s[m]'hm = x := ⟨_, rfl⟩
      have hxb : (bs s)[m]'(by rw [bs_len]; omega) = x := hx
      by_cases he : x = 10
      · have hq : ((x.toNat : Int) == 10) = true := by rw [he]; rfl
        have HE : Hid (EndAt s (m + 1)) := Lib.hid ⟨by rw [bs_len]; omega, .inr ⟨by rw [bs_len]; show m < _; omega, by omega, hxb.trans he⟩, HNO.out⟩
        clear he hxb
        go_wp2_with fail
        go_ret
        exact ⟨m + 1, HE.out, rfl, rfl⟩
      · have hq : ((x.toNat : Int) == 10) = false := by
          rw [beq_eq_false_iff_ne]
          intro e
          exact he (UInt8.toNat_inj.1 (by have e2 : x.toNat = 10 := by omega
                                          rw [e2]; rfl))
        have HN2 : Hid (∀ j (h : j < (bs s).length), m ≤ j → (bs s)[j] ≠ 10) := Lib.hid (fun j h hj => by
          by_cases hjm : j = m
          · subst hjm; rw [hxb]; exact he
          · exact HNO.out j h (by omega))
        clear he hxb
        go_wp2_with fail
        go_roundw
        case rel => exact ⟨m, by omega, by go_num, HN2.out, trivial⟩
        case measure => simp [intOf]
    · obtain rfl : k = 0 := by omega
      go_wp2_with fail
      go_ret
      exact ⟨0, ⟨Nat.zero_le _, .inl rfl, HNO.out⟩, ret_s (whole_nil s), rfl⟩

set_option maxRecDepth 100000 in
set_option maxHeartbeats 4000000 in
theorem lastLine_any (s : Str) (w : World) (hs : s.size ≤ 1048576) :
    Calls Tryz.prog 17 #[.string s] w fun e w' => ∃ k, LastAt s k ∧ e = .returned (.string (s.extract k s.size)) ∧ w = w' := by
  go_enter Tryz.func17, Tryz.ntmps17
  go_wp2_with fail
  go_loopw [3] (fun i wr => ∃ z : Int, -2 ≤ z ∧ z + 2 ≤ (s.size : Int) ∧ i = .int .i64 z ∧ (∀ j (h : j + 1 < (bs s).length), z < (j : Int) → (bs s)[j]'(by omega) ≠ 10) ∧ w = wr) (fun i _ => (intOf i + 2).toNat)
  case atStart => exact ⟨(s.size : Int) - 2, by omega, by omega, rfl, fun j h hk => by rw [bs_len] at h; omega, rfl⟩
  case round =>
    obtain ⟨z, hz0, hz, rfl, hno, rfl⟩ := hrel
    have HNO := Lib.hid hno; clear hno
    by_cases h0 : 0 ≤ z
    · obtain ⟨m, rfl⟩ := Int.eq_ofNat_of_zero_le h0
      have hm : m < s.size := by omega
      have hm2 : m + 2 ≤ s.size := by omega
      obtain ⟨x, hx⟩ : ∃ x, s[m]'hm = x := ⟨_, rfl⟩
      have hxb : (bs s)[m]'(by rw [bs_len]; omega) = x := hx
      by_cases he : x = 10
      · have hq : ((x.toNat : Int) == 10) = true := by rw [he]; rfl
        have HE : Hid (LastAt s (m + 1)) := Lib.hid ⟨by rw [bs_len]; omega, .inr ⟨by rw [bs_len]; omega, by omega, hxb.trans he⟩, fun j h hj => HNO.out j h (by omega)⟩
        clear he hxb
        go_wp2_with fail
        go_ret
        exact ⟨m + 1, HE.out, rfl, rfl⟩
      · have hq : ((x.toNat : Int) == 10) = false := by
          rw [beq_eq_false_iff_ne]
          intro e
          exact he (UInt8.toNat_inj.1 (by have e2 : x.toNat = 10 := by omega
                                          rw [e2]; rfl))
        have HN2 : Hid (∀ j (h : j + 1 < (bs s).length), (m : Int) - 1 < (j : Int) → (bs s)[j]'(by omega) ≠ 10) := Lib.hid (fun j h hj => by
          by_cases hjm : j = m
          · subst hjm; rw [hxb]; exact he
          · exact HNO.out j h (by omega))
        clear he hxb
        go_wp2_with fail
        go_roundw
        case rel => exact ⟨(m : Int) - 1, by omega, by omega, by go_num, HN2.out, trivial⟩
        case measure => simp [intOf]; omega
    · have HE : Hid (LastAt s 0) := Lib.hid ⟨Nat.zero_le _, .inl rfl, fun j h hj => HNO.out j h (by omega)⟩
      go_wp2_with fail
      go_ret
      exact ⟨0, HE.out, ret_s (ext_all s), rfl⟩
end Go.Proofs.YthdfefgianokgaaGreatDoor

/- FnScript, FnScriptCut: the laws' walks. -/
namespace Go.Proofs.YthdfefgianokgaaGreatDoor
open Go.RowKit

set_option maxRecDepth 100000 in
set_option maxHeartbeats 8000000 in
theorem fnScript_any (A : Option Addr) (n c : Nat) (w : World) (hr : RByte w A n) (hc : n ≤ c) (hm : HasMax w) (hp : Maps w) :
    Calls Tryz.prog 3 #[.slice A n c] w fun e w' => e = .returned (.bool true) ∧ Below w.heap.size w w' := by
  have HM := Lib.hid hm; clear hm
  have HP := Lib.hid hp; clear hp
  have HR := Lib.hid hr; clear hr
  by_cases hn : 1048576 < n
  · go_enter Tryz.func3, Tryz.ntmps3
    go_wp2_with fail
    go_ret
    exact ⟨rfl, Below.refl _ _⟩
  go_enter Tryz.func3, Tryz.ntmps3
  go_wp2_with fail
  refine (drawExecute_any A n c w HR.out hc (by omega)).mono ?_
  rintro e w1 ⟨x, rfl, hx, hb1⟩
  have HB1 := Lib.hid hb1; clear hb1
  go_wp2_with fail
  refine (exeI_any x w1 (HM.out.below HB1.out rfl) (HP.out.below HB1.out)).mono ?_
  rintro e w2 ⟨rfl, hb2⟩
  have HB2 := Lib.hid (HB1.out.trans (hb2.mono HB1.out.size)); clear hb2
  go_wp2_with fail
  refine (exeS_any x w2).mono ?_
  rintro e w3 ⟨rfl, hb3⟩
  have HB3 := Lib.hid (HB2.out.trans (hb3.mono HB2.out.size)); clear hb3
  have hpos := exe_pos x
  have HX := Lib.hid hx; clear hx
  obtain ⟨r, hr⟩ : ∃ r, exe x = r := ⟨_, rfl⟩
  rw [hr] at hpos ⊢
  have HE := Lib.hid hr; clear hr
  by_cases hz : 400 < x.size
  · have hl : r = (⟨#[116, 111, 111, 32, 108, 111, 110, 103, 10]⟩ : Str) := by
      rw [← HE.out]
      unfold exe
      rw [if_pos hz]
      rfl
    clear HE
    subst hl
    have hx' := HX.out
    go_wp2_with fail
    go_ret
    exact ⟨rfl, HB3.out⟩
  have hx : x.size ≤ 400 := by omega
  go_wp2_with fail
  refine (exeI_any _ w3 (HM.out.below HB3.out rfl) (HP.out.below HB3.out)).mono ?_
  rintro e w4 ⟨rfl, hb4⟩
  have HB4 := Lib.hid (HB3.out.trans (hb4.mono HB3.out.size)); clear hb4
  generalize hz : exe _ = z
  have h2 := hz.symm.trans (by decide +kernel : _ = (⟨#[103, 111, 101, 115, 32, 45, 10]⟩ : Str))
  clear hz
  subst h2
  go_wp2_with fail
  go_ret
  exact ⟨rfl, HB4.out⟩

set_option maxRecDepth 100000 in
set_option maxHeartbeats 8000000 in
theorem fnScriptCut_any (A : Option Addr) (n c : Nat) (w : World) (hr : RByte w A n) (hc : n ≤ c) (hm : HasMax w) (hp : Maps w) :
    Calls Tryz.prog 4 #[.slice A n c] w fun e w' => e = .returned (.bool true) ∧ Below w.heap.size w w' := by
  have HM := Lib.hid hm; clear hm
  have HP := Lib.hid hp; clear hp
  have HR := Lib.hid hr; clear hr
  by_cases hn : 1048576 < n
  · go_enter Tryz.func4, Tryz.ntmps4
    go_wp2_with fail
    go_ret
    exact ⟨rfl, Below.refl _ _⟩
  go_enter Tryz.func4, Tryz.ntmps4
  go_wp2_with fail
  refine (drawExecute_any A n c w HR.out hc (by omega)).mono ?_
  rintro e w1 ⟨x, rfl, hx, hb1⟩
  have HB1 := Lib.hid hb1; clear hb1
  go_wp2_with fail
  refine (exeI_any x w1 (HM.out.below HB1.out rfl) (HP.out.below HB1.out)).mono ?_
  rintro e w2 ⟨rfl, hb2⟩
  have HB2 := Lib.hid (HB1.out.trans (hb2.mono HB1.out.size)); clear hb2
  go_wp2_with fail
  refine (exeS_any x w2).mono ?_
  rintro e w3 ⟨rfl, hb3⟩
  have HB3 := Lib.hid (HB2.out.trans (hb3.mono HB2.out.size)); clear hb3
  have HX := Lib.hid hx; clear hx
  obtain ⟨r, hr⟩ : ∃ r, exe x = r := ⟨_, rfl⟩
  have HE := Lib.hid hr
  rw [hr]
  clear hr
  by_cases hz : 400 < x.size
  · have hx' := HX.out
    go_wp2_with fail
    go_ret
    exact ⟨rfl, HB3.out⟩
  have hx : x.size ≤ 400 := by omega
  go_wp2_with fail
  refine (completeLines_any x w3 (by omega)).mono ?_
  rintro e w4 ⟨k, hk, rfl, rfl⟩
  have HK := Lib.hid hk; clear hk
  go_wp2_with fail
  refine (exeI_any _ w3 (HM.out.below HB3.out rfl) (HP.out.below HB3.out)).mono ?_
  rintro e w5 ⟨rfl, hb5⟩
  have HB5 := Lib.hid (HB3.out.trans (hb5.mono HB3.out.size)); clear hb5
  rw [exe_cut HK.out hx, HE.out]
  go_wp2_with fail
  go_ret
  exact ⟨rfl, HB5.out⟩
end Go.Proofs.YthdfefgianokgaaGreatDoor

/- FnScriptBad, FnScriptDo, FnScriptFail, FnScriptMark, FnScriptMove: the laws' walks. -/
namespace Go.Proofs.YthdfefgianokgaaGreatDoor
open Go.RowKit

set_option maxRecDepth 100000 in
set_option maxHeartbeats 8000000 in
theorem fnScriptBad_any (A : Option Addr) (n c : Nat) (w : World) (hr : RByte w A n) (hc : n ≤ c) (hm : HasMax w) (hp : Maps w) :
    Calls Tryz.prog 7 #[.slice A n c] w fun e w' => e = .returned (.bool true) ∧ Below w.heap.size w w' := by
  have HM := Lib.hid hm; clear hm
  have HP := Lib.hid hp; clear hp
  have HR := Lib.hid hr; clear hr
  by_cases hn : 1048576 < n
  · go_enter Tryz.func7, Tryz.ntmps7
    go_wp2_with fail
    go_ret
    exact ⟨rfl, Below.refl _ _⟩
  go_enter Tryz.func7, Tryz.ntmps7
  go_wp2_with fail
  refine (drawExecute_any A n c w HR.out hc (by omega)).mono ?_
  rintro e w1 ⟨x, rfl, hx, hb1⟩
  have HB1 := Lib.hid hb1; clear hb1
  go_wp2_with fail
  refine (exeI_any x w1 (HM.out.below HB1.out rfl) (HP.out.below HB1.out)).mono ?_
  rintro e w2 ⟨rfl, hb2⟩
  have HB2 := Lib.hid (HB1.out.trans (hb2.mono HB1.out.size)); clear hb2
  go_wp2_with fail
  refine (exeS_any x w2).mono ?_
  rintro e w3 ⟨rfl, hb3⟩
  have HB3 := Lib.hid (HB2.out.trans (hb3.mono HB2.out.size)); clear hb3
  generalize exe x = r at *
  go_wp2_with fail
  refine (exeI_any _ w3 (HM.out.below HB3.out rfl) (HP.out.below HB3.out)).mono ?_
  rintro e w4 ⟨rfl, hb4⟩
  have HB4 := Lib.hid (HB3.out.trans (hb4.mono HB3.out.size)); clear hb4
  generalize hz : exe _ = z
  have h2 := hz.symm.trans (by decide +kernel : _ = (⟨#[119, 104, 97, 116, 10, 110, 111, 10, 110, 111, 10, 110, 111, 10, 110, 111, 10, 110, 111, 10, 110, 111, 10, 119, 104, 97, 116, 10, 119, 104, 97, 116, 10, 103, 111, 101, 115, 32, 45, 10]⟩ : Str))
  clear hz
  subst h2
  go_wp2_with fail
  go_ret
  exact ⟨rfl, HB4.out⟩

set_option maxRecDepth 100000 in
set_option maxHeartbeats 8000000 in
theorem fnScriptDo_any (A : Option Addr) (n c : Nat) (w : World) (hr : RByte w A n) (hc : n ≤ c) (hm : HasMax w) (hp : Maps w) :
    Calls Tryz.prog 8 #[.slice A n c] w fun e w' => e = .returned (.bool true) ∧ Below w.heap.size w w' := by
  have HM := Lib.hid hm; clear hm
  have HP := Lib.hid hp; clear hp
  have HR := Lib.hid hr; clear hr
  by_cases hn : 1048576 < n
  · go_enter Tryz.func8, Tryz.ntmps8
    go_wp2_with fail
    go_ret
    exact ⟨rfl, Below.refl _ _⟩
  go_enter Tryz.func8, Tryz.ntmps8
  go_wp2_with fail
  refine (drawExecute_any A n c w HR.out hc (by omega)).mono ?_
  rintro e w1 ⟨x, rfl, hx, hb1⟩
  have HB1 := Lib.hid hb1; clear hb1
  go_wp2_with fail
  refine (exeI_any x w1 (HM.out.below HB1.out rfl) (HP.out.below HB1.out)).mono ?_
  rintro e w2 ⟨rfl, hb2⟩
  have HB2 := Lib.hid (HB1.out.trans (hb2.mono HB1.out.size)); clear hb2
  go_wp2_with fail
  refine (exeS_any x w2).mono ?_
  rintro e w3 ⟨rfl, hb3⟩
  have HB3 := Lib.hid (HB2.out.trans (hb3.mono HB2.out.size)); clear hb3
  generalize exe x = r at *
  go_wp2_with fail
  refine (exeI_any _ w3 (HM.out.below HB3.out rfl) (HP.out.below HB3.out)).mono ?_
  rintro e w4 ⟨rfl, hb4⟩
  have HB4 := Lib.hid (HB3.out.trans (hb4.mono HB3.out.size)); clear hb4
  generalize hz : exe _ = z
  have h2 := hz.symm.trans (by decide +kernel : _ = (⟨#[110, 101, 120, 116, 32, 98, 111, 111, 107, 10, 110, 111, 10, 111, 107, 10, 110, 101, 120, 116, 32, 112, 97, 121, 10, 111, 107, 10, 111, 107, 10, 110, 101, 120, 116, 32, 45, 10, 101, 110, 100, 101, 100, 32, 98, 111, 111, 107, 44, 112, 97, 121, 44, 115, 104, 105, 112, 10]⟩ : Str))
  clear hz
  subst h2
  go_wp2_with fail
  go_ret
  exact ⟨rfl, HB4.out⟩

set_option maxRecDepth 100000 in
set_option maxHeartbeats 8000000 in
theorem fnScriptFail_any (A : Option Addr) (n c : Nat) (w : World) (hr : RByte w A n) (hc : n ≤ c) (hm : HasMax w) (hp : Maps w) :
    Calls Tryz.prog 9 #[.slice A n c] w fun e w' => e = .returned (.bool true) ∧ Below w.heap.size w w' := by
  have HM := Lib.hid hm; clear hm
  have HP := Lib.hid hp; clear hp
  have HR := Lib.hid hr; clear hr
  by_cases hn : 1048576 < n
  · go_enter Tryz.func9, Tryz.ntmps9
    go_wp2_with fail
    go_ret
    exact ⟨rfl, Below.refl _ _⟩
  go_enter Tryz.func9, Tryz.ntmps9
  go_wp2_with fail
  refine (drawExecute_any A n c w HR.out hc (by omega)).mono ?_
  rintro e w1 ⟨x, rfl, hx, hb1⟩
  have HB1 := Lib.hid hb1; clear hb1
  go_wp2_with fail
  refine (exeI_any x w1 (HM.out.below HB1.out rfl) (HP.out.below HB1.out)).mono ?_
  rintro e w2 ⟨rfl, hb2⟩
  have HB2 := Lib.hid (HB1.out.trans (hb2.mono HB1.out.size)); clear hb2
  go_wp2_with fail
  refine (exeS_any x w2).mono ?_
  rintro e w3 ⟨rfl, hb3⟩
  have HB3 := Lib.hid (HB2.out.trans (hb3.mono HB2.out.size)); clear hb3
  generalize exe x = r at *
  go_wp2_with fail
  refine (exeI_any _ w3 (HM.out.below HB3.out rfl) (HP.out.below HB3.out)).mono ?_
  rintro e w4 ⟨rfl, hb4⟩
  have HB4 := Lib.hid (HB3.out.trans (hb4.mono HB3.out.size)); clear hb4
  generalize hz : exe _ = z
  have h2 := hz.symm.trans (by decide +kernel : _ = (⟨#[111, 107, 10, 111, 107, 10, 111, 107, 10, 110, 101, 120, 116, 32, 112, 97, 121, 10, 110, 111, 10, 111, 107, 10, 111, 107, 10, 110, 101, 120, 116, 32, 45, 10, 117, 110, 100, 111, 110, 101, 32, 45, 10]⟩ : Str))
  clear hz
  subst h2
  go_wp2_with fail
  go_ret
  exact ⟨rfl, HB4.out⟩

set_option maxRecDepth 100000 in
set_option maxHeartbeats 8000000 in
theorem fnScriptMark_any (A : Option Addr) (n c : Nat) (w : World) (hr : RByte w A n) (hc : n ≤ c) (hm : HasMax w) (hp : Maps w) :
    Calls Tryz.prog 10 #[.slice A n c] w fun e w' => e = .returned (.bool true) ∧ Below w.heap.size w w' := by
  have HM := Lib.hid hm; clear hm
  have HP := Lib.hid hp; clear hp
  have HR := Lib.hid hr; clear hr
  by_cases hn : 1048576 < n
  · go_enter Tryz.func10, Tryz.ntmps10
    go_wp2_with fail
    go_ret
    exact ⟨rfl, Below.refl _ _⟩
  go_enter Tryz.func10, Tryz.ntmps10
  go_wp2_with fail
  refine (drawExecute_any A n c w HR.out hc (by omega)).mono ?_
  rintro e w1 ⟨x, rfl, hx, hb1⟩
  have HB1 := Lib.hid hb1; clear hb1
  go_wp2_with fail
  refine (exeI_any x w1 (HM.out.below HB1.out rfl) (HP.out.below HB1.out)).mono ?_
  rintro e w2 ⟨rfl, hb2⟩
  have HB2 := Lib.hid (HB1.out.trans (hb2.mono HB1.out.size)); clear hb2
  go_wp2_with fail
  refine (exeS_any x w2).mono ?_
  rintro e w3 ⟨rfl, hb3⟩
  have HB3 := Lib.hid (HB2.out.trans (hb3.mono HB2.out.size)); clear hb3
  generalize exe x = r at *
  go_wp2_with fail
  refine (exeI_any _ w3 (HM.out.below HB3.out rfl) (HP.out.below HB3.out)).mono ?_
  rintro e w4 ⟨rfl, hb4⟩
  have HB4 := Lib.hid (HB3.out.trans (hb4.mono HB3.out.size)); clear hb4
  generalize hz : exe _ = z
  have h2 := hz.symm.trans (by decide +kernel : _ = (⟨#[109, 111, 118, 101, 100, 10, 111, 107, 10, 111, 107, 10, 111, 107, 10, 111, 107, 10, 117, 110, 100, 111, 110, 101, 32, 98, 111, 111, 107, 10]⟩ : Str))
  clear hz
  subst h2
  go_wp2_with fail
  go_ret
  exact ⟨rfl, HB4.out⟩

set_option maxRecDepth 100000 in
set_option maxHeartbeats 8000000 in
theorem fnScriptMove_any (A : Option Addr) (n c : Nat) (w : World) (hr : RByte w A n) (hc : n ≤ c) (hm : HasMax w) (hp : Maps w) :
    Calls Tryz.prog 11 #[.slice A n c] w fun e w' => e = .returned (.bool true) ∧ Below w.heap.size w w' := by
  have HM := Lib.hid hm; clear hm
  have HP := Lib.hid hp; clear hp
  have HR := Lib.hid hr; clear hr
  by_cases hn : 1048576 < n
  · go_enter Tryz.func11, Tryz.ntmps11
    go_wp2_with fail
    go_ret
    exact ⟨rfl, Below.refl _ _⟩
  go_enter Tryz.func11, Tryz.ntmps11
  go_wp2_with fail
  refine (drawExecute_any A n c w HR.out hc (by omega)).mono ?_
  rintro e w1 ⟨x, rfl, hx, hb1⟩
  have HB1 := Lib.hid hb1; clear hb1
  go_wp2_with fail
  refine (exeI_any x w1 (HM.out.below HB1.out rfl) (HP.out.below HB1.out)).mono ?_
  rintro e w2 ⟨rfl, hb2⟩
  have HB2 := Lib.hid (HB1.out.trans (hb2.mono HB1.out.size)); clear hb2
  go_wp2_with fail
  refine (exeS_any x w2).mono ?_
  rintro e w3 ⟨rfl, hb3⟩
  have HB3 := Lib.hid (HB2.out.trans (hb3.mono HB2.out.size)); clear hb3
  generalize exe x = r at *
  go_wp2_with fail
  refine (exeI_any _ w3 (HM.out.below HB3.out rfl) (HP.out.below HB3.out)).mono ?_
  rintro e w4 ⟨rfl, hb4⟩
  have HB4 := Lib.hid (HB3.out.trans (hb4.mono HB3.out.size)); clear hb4
  generalize hz : exe _ = z
  have h2 := hz.symm.trans (by decide +kernel : _ = (⟨#[111, 107, 10, 109, 111, 118, 101, 100, 10, 110, 101, 120, 116, 32, 112, 97, 121, 44, 116, 97, 120, 10, 115, 116, 97, 121, 115, 10, 109, 111, 118, 101, 100, 10, 110, 101, 120, 116, 32, 115, 104, 105, 112, 44, 116, 97, 120, 10, 102, 108, 111, 119, 32, 51, 10, 98, 111, 111, 107, 58, 45, 10, 115, 104, 105, 112, 58, 98, 111, 111, 107, 33, 10, 116, 97, 120, 58, 98, 111, 111, 107, 10, 103, 111, 101, 115, 32, 98, 111, 111, 107, 10, 103, 111, 101, 115, 32, 98, 111, 111, 107, 10]⟩ : Str))
  clear hz
  subst h2
  go_wp2_with fail
  go_ret
  exact ⟨rfl, HB4.out⟩
end Go.Proofs.YthdfefgianokgaaGreatDoor
