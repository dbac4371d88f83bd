/- Contracts of functions and plain lemmas, joined. No condition but those that each states. -/
import Derived.Test.YtakeijgoonagcaaZH
import Derived.Test.YtakeijgoonagcaaZC
import Derived.Test.YtakeijgoonagcaaZB
import Derived.Test.YtakeijgoonagcaaZA
import Derived.Test.YtakeijgoonagcaaZI

/- Moving runs and pools to another flow. No program in sight. -/
namespace Go.Proofs.Ytakeijgoonagcaa

/-- A run is one of another flow. -/
def fitB (f g : Flow) (st : Int) (done : List Str) : Bool := runB f st done && (flowB g && (ordB g.steps done && (decide (st = 0) || decide (st = 2) || !decide (done.length = g.steps.length))))
def fitR (f g : Flow) (st : Int) (done : List Str) : Int × List Str := if fitB f g st done = true then ((if st = 0 ∨ st = 2 then forthI done.length g.steps.length else backI g.steps done done.length), done) else (0, [])
theorem fitR_no {f g : Flow} {st : Int} {done : List Str} (h : fitB f g st done = false) : fitR f g st done = (0, []) := by unfold fitR; rw [if_neg (by rw [h]; simp)]
theorem fitR_yes {f g : Flow} {st : Int} {done : List Str} (h : fitB f g st done = true) : fitR f g st done = ((if st = 0 ∨ st = 2 then forthI done.length g.steps.length else backI g.steps done done.length), done) := if_pos h
theorem fit_parts {f g : Flow} {st : Int} {done : List Str} (h : fitB f g st done = true) : runB f st done = true ∧ flowB g = true ∧ ordB g.steps done = true ∧ (st = 0 ∨ st = 2 ∨ done.length ≠ g.steps.length) := by
  unfold fitB at h
  simp only [Bool.and_eq_true, Bool.or_eq_true, decide_eq_true_eq, Bool.not_eq_true', decide_eq_false_iff_not] at h
  obtain ⟨h1, h2, h3, h4⟩ := h
  refine ⟨h1, h2, h3, ?_⟩
  rcases h4 with (h4 | h4) | h4
  · exact .inl h4
  · exact .inr (.inl h4)
  · exact .inr (.inr h4)
theorem fit_run {f g : Flow} {st : Int} {done : List Str} (h : fitB f g st done = true) : runB g (fitR f g st done).1 (fitR f g st done).2 = true := by
  obtain ⟨h1, h2, h3, h4⟩ := fit_parts h
  have hl := ord_len h3
  rw [fitR_yes h]
  by_cases hs : st = 0 ∨ st = 2
  · rw [if_pos hs]
    show runB g (forthI done.length g.steps.length) done = true
    unfold runB forthI
    rw [h2, h3]
    by_cases e : done.length = g.steps.length
    · rw [if_pos e]; simp [e]
    · rw [if_neg e]; simp; omega
  · rw [if_neg hs]
    exact back_run h2 h3 (by omega)
/-- The state of a run is told by what is done. -/
theorem run_told {f : Flow} {st : Int} {done : List Str} (h : runB f st done = true) : st = if st = 0 ∨ st = 2 then forthI done.length f.steps.length else backI f.steps done done.length := by
  have hs := run_state h
  have hle := leftN_le f.steps done done.length
  unfold runB at h
  by_cases h0 : st = 0
  · subst h0
    simp at h
    unfold forthI
    rw [if_pos (.inl rfl), if_neg (by omega)]
  by_cases h2 : st = 2
  · subst h2
    simp at h
    unfold forthI
    rw [if_pos (.inr rfl), if_pos (by omega)]
  rw [if_neg (by omega), back_eq]
  by_cases h1 : st = 1
  · subst h1
    simp at h
    rw [if_neg (by omega)]
  · have h3 : st = 3 := by omega
    subst h3
    simp at h
    rw [if_pos (by omega)]
theorem fit_back {f g : Flow} {st : Int} {done : List Str} (h : fitB f g st done = true) : fitB g f (fitR f g st done).1 (fitR f g st done).2 = true ∧ fitR g f (fitR f g st done).1 (fitR f g st done).2 = (st, done) := by
  obtain ⟨h1, h2, h3, h4⟩ := fit_parts h
  have hr := fit_run h
  have ht := run_told h1
  have hst := run_state h1
  rw [fitR_yes h] at hr ⊢
  have hkeep : ((if st = 0 ∨ st = 2 then forthI done.length g.steps.length else backI g.steps done done.length) = 0 ∨ (if st = 0 ∨ st = 2 then forthI done.length g.steps.length else backI g.steps done done.length) = 2) ↔ (st = 0 ∨ st = 2) := by
    by_cases hs : st = 0 ∨ st = 2
    · rw [if_pos hs]
      unfold forthI
      split <;> simp [hs]
    · rw [if_neg hs, back_eq]
      split <;> simp [hs]
  generalize (if st = 0 ∨ st = 2 then forthI done.length g.steps.length else backI g.steps done done.length) = s' at *
  have hb : fitB g f s' done = true := by
    unfold fitB
    rw [hr, run_flow h1, run_ord h1]
    by_cases hs : st = 0 ∨ st = 2
    · rcases hkeep.2 hs with e | e <;> simp [e]
    · have hl := run_short h1
      have : done.length < f.steps.length := by
        unfold runB at h1
        have h13 : st = 1 ∨ st = 3 := by omega
        rcases h13 with rfl | rfl <;> simp at h1 <;> omega
      have e : decide (done.length = f.steps.length) = false := by rw [decide_eq_false_iff_not]; omega
      rw [e]; simp
  refine ⟨hb, ?_⟩
  rw [fitR_yes hb]
  refine Prod.ext ?_ rfl
  show (if s' = 0 ∨ s' = 2 then _ else _) = st
  by_cases hs : st = 0 ∨ st = 2
  · rw [if_pos (hkeep.2 hs)]
    rw [if_pos hs] at ht
    exact ht.symm
  · rw [if_neg (fun e => hs (hkeep.1 e))]
    rw [if_neg hs] at ht
    exact ht.symm

/-- The cases that move, and the names of the others. -/
def mvC (f g : Flow) (c : Case) : Case := ⟨c.name, (fitR f g c.st c.done).1, (fitR f g c.st c.done).2⟩
def mvL (f g : Flow) (cs : List Case) : List Case := (cs.filter fun c => fitB f g c.st c.done).map (mvC f g)
def mvN (f g : Flow) (cs : List Case) : List Str := (cs.filter fun c => !fitB f g c.st c.done).map (·.name)
theorem mv_len (f g : Flow) (cs : List Case) : (mvL f g cs).length + (mvN f g cs).length = cs.length := by
  unfold mvL mvN
  rw [List.length_map, List.length_map]
  induction cs with
  | nil => rfl
  | cons c cs ih =>
    rw [List.filter_cons, List.filter_cons, List.length_cons]
    cases fitB f g c.st c.done <;> simp <;> omega
theorem mv_yes {f g : Flow} {cs : List Case} {k : Nat} (hk : k < cs.length) (h : fitB f g (nth cs k).st (nth cs k).done = true) : mvL f g (cs.take (k + 1)) = mvL f g (cs.take k) ++ [mvC f g (nth cs k)] := by
  unfold mvL; rw [take_nth hk, List.filter_append]; simp [h]
theorem mv_no {f g : Flow} {cs : List Case} {k : Nat} (hk : k < cs.length) (h : fitB f g (nth cs k).st (nth cs k).done = false) : mvL f g (cs.take (k + 1)) = mvL f g (cs.take k) := by
  unfold mvL; rw [take_nth hk, List.filter_append]; simp [h]
theorem mvN_yes {f g : Flow} {cs : List Case} {k : Nat} (hk : k < cs.length) (h : fitB f g (nth cs k).st (nth cs k).done = true) : mvN f g (cs.take (k + 1)) = mvN f g (cs.take k) := by
  unfold mvN; rw [take_nth hk, List.filter_append]; simp [h]
theorem mvN_no {f g : Flow} {cs : List Case} {k : Nat} (hk : k < cs.length) (h : fitB f g (nth cs k).st (nth cs k).done = false) : mvN f g (cs.take (k + 1)) = mvN f g (cs.take k) ++ [(nth cs k).name] := by
  unfold mvN; rw [take_nth hk, List.filter_append]; simp [h]
theorem mv_pool {f g : Flow} {cs : List Case} (h : poolB f cs = true) (hg : flowB g = true) : poolB g (mvL f g cs) = true := by
  obtain ⟨g1, g2, g3, g4⟩ := poolB_iff.1 h
  refine poolB_iff.2 ⟨fun c hc => ?_, ?_, hg, by have := mv_len f g cs; omega⟩
  · obtain ⟨c', hc', rfl⟩ := List.mem_map.1 hc
    obtain ⟨hm, hf⟩ := List.mem_filter.1 hc'
    exact ⟨(g1 c' hm).1, fit_run hf⟩
  · unfold mvL
    rw [List.pairwise_map]
    exact (g2.sublist List.filter_sublist).imp fun h => h
theorem mv_back {f g : Flow} {cs : List Case} : mvL g f (mvL f g cs) = cs.filter (fun c => fitB f g c.st c.done) ∧ mvN g f (mvL f g cs) = [] := by
  have hb : ∀ c ∈ cs.filter (fun c => fitB f g c.st c.done), fitB g f (mvC f g c).st (mvC f g c).done = true ∧ mvC g f (mvC f g c) = c := fun c hc => by
    have h := (List.mem_filter.1 hc).2
    obtain ⟨h1, h2⟩ := fit_back h
    refine ⟨h1, ?_⟩
    unfold mvC
    rw [h2]
  constructor
  · unfold mvL
    rw [List.filter_map, List.map_map]
    have e1 : (cs.filter fun c => fitB f g c.st c.done).filter ((fun c => fitB g f c.st c.done) ∘ mvC f g) = cs.filter fun c => fitB f g c.st c.done := List.filter_eq_self.2 fun c hc => (hb c hc).1
    rw [e1]
    have : (cs.filter fun c => fitB f g c.st c.done).map (mvC g f ∘ mvC f g) = (cs.filter fun c => fitB f g c.st c.done).map id := List.map_congr_left fun c hc => (hb c hc).2
    rw [this, List.map_id]
  · unfold mvN mvL
    rw [List.filter_map, List.map_map]
    have e1 : (cs.filter fun c => fitB f g c.st c.done).filter ((fun c => !fitB g f c.st c.done) ∘ mvC f g) = [] := List.filter_eq_nil_iff.2 fun c hc => by
      have := (hb c hc).1
      simp [this]
    rw [e1]; rfl
end Go.Proofs.Ytakeijgoonagcaa

/- Runs of another flow: both sides. -/
namespace Go.Proofs.Ytakeijgoonagcaa
open Go.RowKit

set_option maxRecDepth 100000 in
set_option maxHeartbeats 1000000 in
theorem bad_any (A B : Option Addr) (n c m d : Nat) (ver : Int) (ss : List Step) (done : List Str) (lo lo' : Nat) (w : World) (hr : RStep w lo A n ss) (hok : okSteps ss) (hd : RStr w lo' B m done) (hm : m ≤ 1048576) (hmd : m ≤ d) :
    Calls Try.prog 74 #[.agg #[.int .i64 ver, .slice A n c], .slice B m d] w fun e w' => ∃ s : Str, e = .returned (.tuple #[.string s, .bool (!ordB ss done)]) ∧ Below w.heap.size w w' := by
  have hn : n ≤ 1048576 := by have := hok.1; rw [hr.1] at this; exact this
  have HO := Lib.hid hok; clear hok
  have HX0 := Lib.hid (heap_new (w := w) (o := .cells #[.int .i64 ver, .slice A n c] 34) rfl)
  have HB0 := Lib.hid ((Below.refl w.heap.size w).alloc (Nat.le_refl _) (.cells #[.int .i64 ver, .slice A n c] 34))
  have HR := Lib.hid (hr.alloc (.cells #[.int .i64 ver, .slice A n c] 34)); clear hr
  have HD := Lib.hid (hd.alloc (.cells #[.int .i64 ver, .slice A n c] 34)); clear hd
  have HL := Lib.hid HD.out.1
  go_enter Try.func74, Try.ntmps74
  go_wp2_with fail
  generalize ew0 : w.alloc (.cells #[.int .i64 ver, .slice A n c] 34) = w0 at *
  clear ew0
  go_loopw [11] (fun i wr => ∃ k : Nat, k ≤ m ∧ i = .int .i64 k ∧ Below w0.heap.size w0 wr ∧ ∀ j, j < k → ordAt ss done j = true) (fun i _ => m - (intOf i).toNat)
  case atStart => exact ⟨0, Nat.zero_le _, rfl, Below.refl _ _, fa_zero⟩
  case round =>
    obtain ⟨k, hk, rfl, hbw, hp⟩ := hrel
    have HP := Lib.hid hp; clear hp
    have HBW := Lib.hid hbw; clear hbw
    have hsw := HBW.out.size
    have HXW := Lib.hid ((HBW.out.block _ (heap_lt HX0.out)).trans HX0.out)
    by_cases hlt : k < m
    · obtain ⟨b, off, rfl, _, hc⟩ := RStr.at_ (HD.out.below HBW.out) hlt
      have x1 := (hc k hlt).1
      clear hc
      have hkl : k < done.length := by rw [HL.out]; exact hlt
      have z0 := (blk_cl (k := 0) HXW.out rfl).1
      have z1 := (blk_cl (k := 1) HXW.out rfl).1
      go_wp2_with fail
      refine (at_any _ _ _ ver ss (nth done k) _ _ (HR.out.below HBW.out) hn).mono ?_
      rintro e w1 ⟨rfl, hb1⟩
      have HB1 := Lib.hid (HBW.out.trans (hb1.mono hsw))
      have HX1 := Lib.hid ((hb1.block _ (heap_lt HXW.out)).trans HXW.out)
      clear hb1 z0 z1 x1
      have y0 := (blk_cl (k := 0) HX1.out rfl).1
      have y1 := (blk_cl (k := 1) HX1.out rfl).1
      have hkk : (k : Int) ≤ (d : Int) := by omega
      have hk0 : (0 : Int) ≤ (k : Int) := by omega
      have hkd : k ≤ d := by omega
      cases h1 : hasB (namesOf ss) (nth done k)
      · have h9 := idx_neg h1
        have h10 : decide (idxI (namesOf ss) (nth done k) < 0) = true := by rw [decide_eq_true_iff]; exact h9
        have HBB : Hid (ordB ss done = false) := allN_false hkl (by unfold ordAt; rw [h1]; rfl)
        clear h1
        generalize idxI (namesOf ss) (nth done k) = zi at *
        go_wp2_with fail
        go_quiet (fail)
        go_wp2_with fail
        exact bodyPost_ret (v := .tuple #[.string (nth done k), .bool true]) (by simp [results, Try.results74, go_sem]) rfl ⟨_, by rw [HBB.out]; rfl, HB0.out.trans ((below_drewN HB1.out _).mono HB0.out.size)⟩
      · obtain ⟨hpl, hidx, hnm⟩ := plc_ex h1
        have HPA := Lib.hid (show ordAt ss done k = (!hasB (done.take k) (nth done k) && haveB (done.take k) (nth ss (plc ss (nth done k))).after) by unfold ordAt; rw [h1]; rfl)
        have HS := Lib.hid (HO.out.2 _ hpl).2
        rw [hidx]
        clear h1 hnm hidx
        generalize plc ss (nth done k) = p at *
        have hpn : p < n := by rw [← HR.out.1]; exact hpl
        have hp0 : decide ((p : Int) < 0) = false := by rw [decide_eq_false_iff_not]; omega
        have hp1 : (0 : Int) ≤ (p : Int) := by omega
        have hp2 : (p : Int) < (n : Int) := by omega
        obtain ⟨b1, off1, rfl, ⟨_, hbr⟩, hc⟩ := RStep.at_ (HR.out.below HB1.out) hpn
        obtain ⟨A', n', c', ⟨u1, u2, u3⟩, ha, _⟩ := hc p hpn
        clear hc hpl
        have hn' : n' ≤ 1048576 := by have := HS.out.1; rw [ha.1] at this; exact this
        have H1 := Lib.hid (fun z => contains_any (some ⟨b, off, none⟩) k d (done.take k) (nth done k) _ (w1.drewN z) (((HD.out.below HB1.out).drewN z).take hk) (by omega))
        have H2 := Lib.hid (fun z => namesHave_any (some ⟨b, off, none⟩) A' k d n' c' (done.take k) (nth ss p).after _ _ (w1.drewN z) (((HD.out.below HB1.out).drewN z).take hk) (by omega) (ha.drewN z) hn')
        clear ha
        cases hf : hasB (done.take k) (nth done k)
        · rw [hf] at H1 HPA
          clear hf
          cases hh : haveB (done.take k) (nth ss p).after
          · rw [hh] at H2
            have HBB : Hid (ordB ss done = false) := allN_false hkl (by rw [HPA.out, hh]; rfl)
            clear hh
            go_wp2_with fail
            go_quiet ((first | (go_at_call 135; exact q_same (H1.out _)) | (go_at_call 112; exact q_same (H2.out _))))
            go_wp2_with fail
            exact bodyPost_ret (v := .tuple #[.string (nth done k), .bool true]) (by simp [results, Try.results74, go_sem]) rfl ⟨_, by rw [HBB.out]; rfl, HB0.out.trans ((below_drewN HB1.out _).mono HB0.out.size)⟩
          · rw [hh] at H2
            have HBB : Hid (ordAt ss done k = true) := by rw [HPA.out, hh]; rfl
            clear hh
            go_wp2_with fail
            go_quiet ((first | (go_at_call 135; exact q_same (H1.out _)) | (go_at_call 112; exact q_same (H2.out _))))
            go_wp2_with fail
            go_roundw
            case rel => exact ⟨k + 1, by omega, by go_num, below_drewN HB1.out _, fa_succ HP.out HBB.out⟩
            case measure => simp [intOf]; omega
        · rw [hf] at H1
          have HBB : Hid (ordB ss done = false) := allN_false hkl (by rw [HPA.out, hf]; rfl)
          clear hf
          go_wp2_with fail
          go_quiet ((first | (go_at_call 135; exact q_same (H1.out _)) | (go_at_call 112; exact q_same (H2.out _))))
          go_wp2_with fail
          exact bodyPost_ret (v := .tuple #[.string (nth done k), .bool true]) (by simp [results, Try.results74, go_sem]) rfl ⟨_, by rw [HBB.out]; rfl, HB0.out.trans ((below_drewN HB1.out _).mono HB0.out.size)⟩
    · obtain rfl : k = m := by omega
      have HBB : Hid (ordB ss done = true) := allN_true (fun j hj => HP.out j (by rw [HL.out] at hj; omega))
      go_wp2_with fail
      exact bodyPost_ret (v := .tuple #[.string ⟨#[]⟩, .bool false]) (by simp [results, Try.results74, go_sem]) rfl ⟨_, by rw [HBB.out]; rfl, HB0.out.trans (HBW.out.mono HB0.out.size)⟩

end Go.Proofs.Ytakeijgoonagcaa

/- Runs moved to another flow: both sides. -/
namespace Go.Proofs.Ytakeijgoonagcaa
open Go.RowKit

set_option maxRecDepth 100000 in
set_option maxHeartbeats 2000000 in
theorem fitI_any (A G B : Option Addr) (n c ng cg m d : Nat) (f g : Flow) (st : Int) (done : List Str) (lo log lo' : Nat) (w : World) (hr : RStep w lo A n f.steps) (hok : okSteps f.steps) (hg : RStep w log G ng g.steps) (hokg : okSteps g.steps) (hd : RStr w lo' B m done) (hm : m ≤ 1048576) (hmd : m ≤ d) :
    Calls Try.prog 31 #[.agg #[.int .i64 f.ver, .slice A n c], .agg #[.int .i64 g.ver, .slice G ng cg], .agg #[.int .i64 st, .slice B m d]] w fun e w' => ∃ B' n' d', e = .returned (.tuple #[.agg #[.int .i64 (fitR f g st done).1, .slice B' n' d'], .bool (fitB f g st done)]) ∧
      w'.ownsRow w.heap.size 9 1 (.slice B' n' d') n' ((fitR f g st done).2.map Value.string) ∧ Below w.heap.size w w' := by
  have HX := Lib.hid (heap_old (o := .cells #[.int .i64 0, .slice none 0 0] 48) (heap_old (o := .cells #[.int .i64 st, .slice B m d] 48) (heap_old (o := .cells #[.int .i64 g.ver, .slice G ng cg] 34) (heap_new (w := w) (o := .cells #[.int .i64 f.ver, .slice A n c] 34) rfl))))
  have HG := Lib.hid (heap_old (o := .cells #[.int .i64 0, .slice none 0 0] 48) (heap_old (o := .cells #[.int .i64 st, .slice B m d] 48) (heap_new (w := w.alloc (.cells #[.int .i64 f.ver, .slice A n c] 34)) (b := w.heap.size + 1) (o := .cells #[.int .i64 g.ver, .slice G ng cg] 34) (by simp))))
  have HY := Lib.hid (heap_old (o := .cells #[.int .i64 0, .slice none 0 0] 48) (heap_new (w := (w.alloc (.cells #[.int .i64 f.ver, .slice A n c] 34)).alloc (.cells #[.int .i64 g.ver, .slice G ng cg] 34)) (b := w.heap.size + 1 + 1) (o := .cells #[.int .i64 st, .slice B m d] 48) (by simp)))
  have HZ := Lib.hid (heap_new (w := ((w.alloc (.cells #[.int .i64 f.ver, .slice A n c] 34)).alloc (.cells #[.int .i64 g.ver, .slice G ng cg] 34)).alloc (.cells #[.int .i64 st, .slice B m d] 48)) (b := w.heap.size + 1 + 1 + 1) (o := .cells #[.int .i64 0, .slice none 0 0] 48) (by simp))
  have HB := Lib.hid (((((Below.refl w.heap.size w).alloc (Nat.le_refl _) (.cells #[.int .i64 f.ver, .slice A n c] 34)).alloc (by simp) (.cells #[.int .i64 g.ver, .slice G ng cg] 34)).alloc (by simp; omega) (.cells #[.int .i64 st, .slice B m d] 48)).alloc (by simp; omega) (.cells #[.int .i64 0, .slice none 0 0] 48))
  have HR := Lib.hid ((((hr.alloc (.cells #[.int .i64 f.ver, .slice A n c] 34)).alloc (.cells #[.int .i64 g.ver, .slice G ng cg] 34)).alloc (.cells #[.int .i64 st, .slice B m d] 48)).alloc (.cells #[.int .i64 0, .slice none 0 0] 48)); clear hr
  have HGR := Lib.hid ((((hg.alloc (.cells #[.int .i64 f.ver, .slice A n c] 34)).alloc (.cells #[.int .i64 g.ver, .slice G ng cg] 34)).alloc (.cells #[.int .i64 st, .slice B m d] 48)).alloc (.cells #[.int .i64 0, .slice none 0 0] 48)); clear hg
  have HD := Lib.hid ((((hd.alloc (.cells #[.int .i64 f.ver, .slice A n c] 34)).alloc (.cells #[.int .i64 g.ver, .slice G ng cg] 34)).alloc (.cells #[.int .i64 st, .slice B m d] 48)).alloc (.cells #[.int .i64 0, .slice none 0 0] 48)); clear hd
  have HLm := Lib.hid HD.out.1
  have HLg := Lib.hid HGR.out.1
  have hng : ng ≤ 1048576 := by have := hokg.1; rw [HLg.out] at this; exact this
  go_enter Try.func31, Try.ntmps31
  go_wp2_with fail
  refine (runI_any _ _ _ _ _ _ f st done _ _ _ HR.out hok HD.out hm hmd).mono ?_
  rintro e w1 ⟨rfl, hb⟩
  have HX1 := Lib.hid ((hb.block _ (heap_lt HX.out)).trans HX.out)
  have HG1 := Lib.hid ((hb.block _ (heap_lt HG.out)).trans HG.out)
  have HY1 := Lib.hid ((hb.block _ (heap_lt HY.out)).trans HY.out)
  have HZ1 := Lib.hid ((hb.block _ (heap_lt HZ.out)).trans HZ.out)
  have HB1 := Lib.hid (HB.out.trans (hb.mono HB.out.size))
  have HR1 := Lib.hid (HR.out.below hb)
  have HGR1 := Lib.hid (HGR.out.below hb)
  have HD1 := Lib.hid (HD.out.below hb)
  clear hb
  cases hrun : runB f st done
  · have hfb : fitB f g st done = false := by unfold fitB; rw [hrun]; rfl
    have HE := Lib.hid (show fitR f g st done = (0, []) ∧ fitB f g st done = false from ⟨fitR_no hfb, hfb⟩)
    clear hrun hfb
    have z0 := (blk_cl (k := 0) HZ1.out rfl).1
    have z0' := (blk_cl (k := 0) HZ1.out rfl).2
    have z1 := (blk_cl (k := 1) HZ1.out rfl).1
    have z1' := (blk_cl (k := 1) HZ1.out rfl).2
    go_wp2_with fail
    have hres := set21 (u := .slice none 0 0) (set20 (u := .int .i64 0) HZ1.out)
    have e0 := (blk_cl (k := 0) hres rfl).1
    have e1 := (blk_cl (k := 1) hres rfl).1
    exact bodyPost_ret (v := .tuple #[.agg #[.int .i64 0, .slice none 0 0], .bool false]) (by simp [results, Try.results31, go_sem, e0, e1]) rfl ⟨none, 0, 0, by rw [HE.out.1, HE.out.2], by rw [HE.out.1]; exact own_nil, (HB1.out.setCell (p := ⟨w.heap.size + 1 + 1 + 1, 0, none⟩) (by show w.heap.size ≤ w.heap.size + 1 + 1 + 1; omega) _).setCell (p := ⟨w.heap.size + 1 + 1 + 1, 1, none⟩) (by show w.heap.size ≤ w.heap.size + 1 + 1 + 1; omega) _⟩
  have x0 := (blk_cl (k := 0) HX1.out rfl).1
  have x1 := (blk_cl (k := 1) HX1.out rfl).1
  have g0 := (blk_cl (k := 0) HG1.out rfl).1
  have g1 := (blk_cl (k := 1) HG1.out rfl).1
  have y0 := (blk_cl (k := 0) HY1.out rfl).1
  have y1 := (blk_cl (k := 1) HY1.out rfl).1
  go_wp2_with fail
  refine (flowI_any _ _ _ g _ _ HGR1.out hokg).mono ?_
  rintro e w2 ⟨rfl, hb⟩
  have HX2 := Lib.hid ((hb.block _ (heap_lt HX1.out)).trans HX1.out)
  have HG2 := Lib.hid ((hb.block _ (heap_lt HG1.out)).trans HG1.out)
  have HY2 := Lib.hid ((hb.block _ (heap_lt HY1.out)).trans HY1.out)
  have HZ2 := Lib.hid ((hb.block _ (heap_lt HZ1.out)).trans HZ1.out)
  have HB2 := Lib.hid (HB1.out.trans (hb.mono HB1.out.size))
  have HR2 := Lib.hid (HR1.out.below hb)
  have HGR2 := Lib.hid (HGR1.out.below hb)
  have HD2 := Lib.hid (HD1.out.below hb)
  clear hb
  clear x0 x1 g0 g1 y0 y1
  cases hfg : flowB g
  · have hfb : fitB f g st done = false := by unfold fitB; rw [hrun, hfg]; rfl
    have HE := Lib.hid (show fitR f g st done = (0, []) ∧ fitB f g st done = false from ⟨fitR_no hfb, hfb⟩)
    clear hrun hfb hfg
    have z0 := (blk_cl (k := 0) HZ2.out rfl).1
    have z0' := (blk_cl (k := 0) HZ2.out rfl).2
    have z1 := (blk_cl (k := 1) HZ2.out rfl).1
    have z1' := (blk_cl (k := 1) HZ2.out rfl).2
    go_wp2_with fail
    have hres := set21 (u := .slice none 0 0) (set20 (u := .int .i64 0) HZ2.out)
    have e0 := (blk_cl (k := 0) hres rfl).1
    have e1 := (blk_cl (k := 1) hres rfl).1
    exact bodyPost_ret (v := .tuple #[.agg #[.int .i64 0, .slice none 0 0], .bool false]) (by simp [results, Try.results31, go_sem, e0, e1]) rfl ⟨none, 0, 0, by rw [HE.out.1, HE.out.2], by rw [HE.out.1]; exact own_nil, (HB2.out.setCell (p := ⟨w.heap.size + 1 + 1 + 1, 0, none⟩) (by show w.heap.size ≤ w.heap.size + 1 + 1 + 1; omega) _).setCell (p := ⟨w.heap.size + 1 + 1 + 1, 1, none⟩) (by show w.heap.size ≤ w.heap.size + 1 + 1 + 1; omega) _⟩
  have x0 := (blk_cl (k := 0) HX2.out rfl).1
  have x1 := (blk_cl (k := 1) HX2.out rfl).1
  have g0 := (blk_cl (k := 0) HG2.out rfl).1
  have g1 := (blk_cl (k := 1) HG2.out rfl).1
  have y0 := (blk_cl (k := 0) HY2.out rfl).1
  have y1 := (blk_cl (k := 1) HY2.out rfl).1
  go_wp2_with fail
  refine (bad_any _ _ _ _ _ _ g.ver g.steps done _ _ _ HGR2.out hokg HD2.out hm hmd).mono ?_
  rintro e w3 ⟨s3, rfl, hb⟩
  have HX3 := Lib.hid ((hb.block _ (heap_lt HX2.out)).trans HX2.out)
  have HG3 := Lib.hid ((hb.block _ (heap_lt HG2.out)).trans HG2.out)
  have HY3 := Lib.hid ((hb.block _ (heap_lt HY2.out)).trans HY2.out)
  have HZ3 := Lib.hid ((hb.block _ (heap_lt HZ2.out)).trans HZ2.out)
  have HB3 := Lib.hid (HB2.out.trans (hb.mono HB2.out.size))
  have HR3 := Lib.hid (HR2.out.below hb)
  have HGR3 := Lib.hid (HGR2.out.below hb)
  have HD3 := Lib.hid (HD2.out.below hb)
  clear hb
  clear x0 x1 g0 g1 y0 y1
  cases ho : ordB g.steps done
  · have hfb : fitB f g st done = false := by unfold fitB; rw [hrun, hfg, ho]; rfl
    have HE := Lib.hid (show fitR f g st done = (0, []) ∧ fitB f g st done = false from ⟨fitR_no hfb, hfb⟩)
    clear hrun hfb hfg ho
    have z0 := (blk_cl (k := 0) HZ3.out rfl).1
    have z0' := (blk_cl (k := 0) HZ3.out rfl).2
    have z1 := (blk_cl (k := 1) HZ3.out rfl).1
    have z1' := (blk_cl (k := 1) HZ3.out rfl).2
    go_wp2_with fail
    have hres := set21 (u := .slice none 0 0) (set20 (u := .int .i64 0) HZ3.out)
    have e0 := (blk_cl (k := 0) hres rfl).1
    have e1 := (blk_cl (k := 1) hres rfl).1
    exact bodyPost_ret (v := .tuple #[.agg #[.int .i64 0, .slice none 0 0], .bool false]) (by simp [results, Try.results31, go_sem, e0, e1]) rfl ⟨none, 0, 0, by rw [HE.out.1, HE.out.2], by rw [HE.out.1]; exact own_nil, (HB3.out.setCell (p := ⟨w.heap.size + 1 + 1 + 1, 0, none⟩) (by show w.heap.size ≤ w.heap.size + 1 + 1 + 1; omega) _).setCell (p := ⟨w.heap.size + 1 + 1 + 1, 1, none⟩) (by show w.heap.size ≤ w.heap.size + 1 + 1 + 1; omega) _⟩
  have x0 := (blk_cl (k := 0) HX3.out rfl).1
  have x1 := (blk_cl (k := 1) HX3.out rfl).1
  have g0 := (blk_cl (k := 0) HG3.out rfl).1
  have g1 := (blk_cl (k := 1) HG3.out rfl).1
  have y0 := (blk_cl (k := 0) HY3.out rfl).1
  have y1 := (blk_cl (k := 1) HY3.out rfl).1
  go_wp2_with fail
  refine (cloneNames_any _ _ _ done _ _ HD3.out hm).mono ?_
  rintro e w4 ⟨v4, rfl, how4⟩
  have hb := how4.below
  obtain ⟨A4, c4, rfl, hrs4⟩ := own_str how4.row
  have HROW := Lib.hid how4.row; clear how4
  have HRS := Lib.hid hrs4; clear hrs4
  have HBASE := Lib.hid HB3.out.size
  have HX4 := Lib.hid ((hb.block _ (heap_lt HX3.out)).trans HX3.out)
  have HG4 := Lib.hid ((hb.block _ (heap_lt HG3.out)).trans HG3.out)
  have HY4 := Lib.hid ((hb.block _ (heap_lt HY3.out)).trans HY3.out)
  have HZ4 := Lib.hid ((hb.block _ (heap_lt HZ3.out)).trans HZ3.out)
  have HB4 := Lib.hid (HB3.out.trans (hb.mono HB3.out.size))
  have HR4 := Lib.hid (HR3.out.below hb)
  have HGR4 := Lib.hid (HGR3.out.below hb)
  have HD4 := Lib.hid (HD3.out.below hb)
  clear hb
  clear x0 x1 g0 g1 y0 y1
  have hst := run_state hrun
  have hall : ∀ j, j < m → hasB (namesOf g.steps) (nth done j) = true := fun j hj => ord_all ho j (by rw [HLm.out]; exact hj)
  have HALL := Lib.hid hall; clear hall
  by_cases hs : st = 0 ∨ st = 2
  · have hfb : fitB f g st done = true := by unfold fitB; rw [hrun, hfg, ho]; rcases hs with rfl | rfl <;> simp
    have HE := Lib.hid (show fitR f g st done = (forthI m ng, done) ∧ fitB f g st done = true from ⟨by rw [fitR_yes hfb, if_pos hs, HLm.out, HLg.out], hfb⟩)
    clear hrun hfb hfg ho hst
    have x0 := (blk_cl (k := 0) HX4.out rfl).1
    have x1 := (blk_cl (k := 1) HX4.out rfl).1
    have g0 := (blk_cl (k := 0) HG4.out rfl).1
    have g1 := (blk_cl (k := 1) HG4.out rfl).1
    have y0 := (blk_cl (k := 0) HY4.out rfl).1
    have y1 := (blk_cl (k := 1) HY4.out rfl).1
    rcases hs with rfl | rfl
    · go_wp2_with fail
      refine (forth_any _ _ _ _ _ _ g.ver _).mono ?_
      rintro e w5 ⟨rfl, hb⟩
      have HROW5 := Lib.hid (row_below HROW.out hb)
      have HX5 := Lib.hid ((hb.block _ (heap_lt HX4.out)).trans HX4.out)
      have HG5 := Lib.hid ((hb.block _ (heap_lt HG4.out)).trans HG4.out)
      have HY5 := Lib.hid ((hb.block _ (heap_lt HY4.out)).trans HY4.out)
      have HZ5 := Lib.hid ((hb.block _ (heap_lt HZ4.out)).trans HZ4.out)
      have HB5 := Lib.hid (HB4.out.trans (hb.mono HB4.out.size))
      have HR5 := Lib.hid (HR4.out.below hb)
      have HGR5 := Lib.hid (HGR4.out.below hb)
      have HD5 := Lib.hid (HD4.out.below hb)
      clear hb
      clear x0 x1 g0 g1 y0 y1
      generalize forthI m ng = zz at *
      have z0 := (blk_cl (k := 0) HZ5.out rfl).1
      have z0' := (blk_cl (k := 0) HZ5.out rfl).2
      have z1 := (blk_cl (k := 1) HZ5.out rfl).1
      have z1' := (blk_cl (k := 1) HZ5.out rfl).2
      go_wp2_with fail
      have hres := set21 (u := .slice A4 m c4) (set20 (u := .int .i64 zz) HZ5.out)
      have e0 := (blk_cl (k := 0) hres rfl).1
      have e1 := (blk_cl (k := 1) hres rfl).1
      exact bodyPost_ret (v := .tuple #[.agg #[.int .i64 zz, .slice A4 m c4], .bool true]) (by simp [results, Try.results31, go_sem, e0, e1]) rfl ⟨_, _, _, by rw [HE.out.1, HE.out.2], by rw [HE.out.1]; exact row_mono (row_set (row_set HROW5.out HZ5.out (by decide)) (set20 HZ5.out) (by decide)) HBASE.out, (HB5.out.setCell (p := ⟨w.heap.size + 1 + 1 + 1, 0, none⟩) (by show w.heap.size ≤ w.heap.size + 1 + 1 + 1; omega) _).setCell (p := ⟨w.heap.size + 1 + 1 + 1, 1, none⟩) (by show w.heap.size ≤ w.heap.size + 1 + 1 + 1; omega) _⟩
    · go_wp2_with fail
      refine (forth_any _ _ _ _ _ _ g.ver _).mono ?_
      rintro e w5 ⟨rfl, hb⟩
      have HROW5 := Lib.hid (row_below HROW.out hb)
      have HX5 := Lib.hid ((hb.block _ (heap_lt HX4.out)).trans HX4.out)
      have HG5 := Lib.hid ((hb.block _ (heap_lt HG4.out)).trans HG4.out)
      have HY5 := Lib.hid ((hb.block _ (heap_lt HY4.out)).trans HY4.out)
      have HZ5 := Lib.hid ((hb.block _ (heap_lt HZ4.out)).trans HZ4.out)
      have HB5 := Lib.hid (HB4.out.trans (hb.mono HB4.out.size))
      have HR5 := Lib.hid (HR4.out.below hb)
      have HGR5 := Lib.hid (HGR4.out.below hb)
      have HD5 := Lib.hid (HD4.out.below hb)
      clear hb
      clear x0 x1 g0 g1 y0 y1
      generalize forthI m ng = zz at *
      have z0 := (blk_cl (k := 0) HZ5.out rfl).1
      have z0' := (blk_cl (k := 0) HZ5.out rfl).2
      have z1 := (blk_cl (k := 1) HZ5.out rfl).1
      have z1' := (blk_cl (k := 1) HZ5.out rfl).2
      go_wp2_with fail
      have hres := set21 (u := .slice A4 m c4) (set20 (u := .int .i64 zz) HZ5.out)
      have e0 := (blk_cl (k := 0) hres rfl).1
      have e1 := (blk_cl (k := 1) hres rfl).1
      exact bodyPost_ret (v := .tuple #[.agg #[.int .i64 zz, .slice A4 m c4], .bool true]) (by simp [results, Try.results31, go_sem, e0, e1]) rfl ⟨_, _, _, by rw [HE.out.1, HE.out.2], by rw [HE.out.1]; exact row_mono (row_set (row_set HROW5.out HZ5.out (by decide)) (set20 HZ5.out) (by decide)) HBASE.out, (HB5.out.setCell (p := ⟨w.heap.size + 1 + 1 + 1, 0, none⟩) (by show w.heap.size ≤ w.heap.size + 1 + 1 + 1; omega) _).setCell (p := ⟨w.heap.size + 1 + 1 + 1, 1, none⟩) (by show w.heap.size ≤ w.heap.size + 1 + 1 + 1; omega) _⟩
  · have q0 : (st == 0) = false := by rw [beq_eq_false_iff_ne]; omega
    have q2 : (st == 2) = false := by rw [beq_eq_false_iff_ne]; omega
    by_cases hmn : m = ng
    · have hfb : fitB f g st done = false := by
        unfold fitB
        have e0 : decide (st = 0) = false := by rw [decide_eq_false_iff_not]; omega
        have e2 : decide (st = 2) = false := by rw [decide_eq_false_iff_not]; omega
        have e3 : decide (done.length = g.steps.length) = true := by rw [decide_eq_true_iff, HLm.out, HLg.out]; exact hmn
        rw [e0, e2, e3]; simp
      have HE := Lib.hid (show fitR f g st done = (0, []) ∧ fitB f g st done = false from ⟨fitR_no hfb, hfb⟩)
      clear hrun hfb hfg ho hst hs
      have qm : ((m : Int) == (ng : Int)) = true := by rw [beq_iff_eq]; omega
      have x0 := (blk_cl (k := 0) HX4.out rfl).1
      have x1 := (blk_cl (k := 1) HX4.out rfl).1
      have g0 := (blk_cl (k := 0) HG4.out rfl).1
      have g1 := (blk_cl (k := 1) HG4.out rfl).1
      have y0 := (blk_cl (k := 0) HY4.out rfl).1
      have y1 := (blk_cl (k := 1) HY4.out rfl).1
      have z0 := (blk_cl (k := 0) HZ4.out rfl).1
      have z0' := (blk_cl (k := 0) HZ4.out rfl).2
      have z1 := (blk_cl (k := 1) HZ4.out rfl).1
      have z1' := (blk_cl (k := 1) HZ4.out rfl).2
      go_wp2_with fail
      have hres := set21 (u := .slice none 0 0) (set20 (u := .int .i64 0) HZ4.out)
      have e0 := (blk_cl (k := 0) hres rfl).1
      have e1 := (blk_cl (k := 1) hres rfl).1
      exact bodyPost_ret (v := .tuple #[.agg #[.int .i64 0, .slice none 0 0], .bool false]) (by simp [results, Try.results31, go_sem, e0, e1]) rfl ⟨none, 0, 0, by rw [HE.out.1, HE.out.2], by rw [HE.out.1]; exact own_nil, (HB4.out.setCell (p := ⟨w.heap.size + 1 + 1 + 1, 0, none⟩) (by show w.heap.size ≤ w.heap.size + 1 + 1 + 1; omega) _).setCell (p := ⟨w.heap.size + 1 + 1 + 1, 1, none⟩) (by show w.heap.size ≤ w.heap.size + 1 + 1 + 1; omega) _⟩
    · have hfb : fitB f g st done = true := by
        unfold fitB
        have e3 : decide (done.length = g.steps.length) = false := by rw [decide_eq_false_iff_not, HLm.out, HLg.out]; exact hmn
        rw [hrun, hfg, ho, e3]; simp
      have HE := Lib.hid (show fitR f g st done = (backI g.steps done m, done) ∧ fitB f g st done = true from ⟨by rw [fitR_yes hfb, if_neg hs, HLm.out], hfb⟩)
      have qm : ((m : Int) == (ng : Int)) = false := by rw [beq_eq_false_iff_ne]; omega
      clear hrun hfb hfg ho hst hs
      have x0 := (blk_cl (k := 0) HX4.out rfl).1
      have x1 := (blk_cl (k := 1) HX4.out rfl).1
      have g0 := (blk_cl (k := 0) HG4.out rfl).1
      have g1 := (blk_cl (k := 1) HG4.out rfl).1
      have y0 := (blk_cl (k := 0) HY4.out rfl).1
      have y1 := (blk_cl (k := 1) HY4.out rfl).1
      go_wp2_with fail
      refine (back_any _ _ _ _ _ _ g.ver g.steps done _ _ _ HGR4.out hng HRS.out hm HALL.out).mono ?_
      rintro e w5 ⟨rfl, hb⟩
      have HROW5 := Lib.hid (row_below HROW.out hb)
      have HX5 := Lib.hid ((hb.block _ (heap_lt HX4.out)).trans HX4.out)
      have HG5 := Lib.hid ((hb.block _ (heap_lt HG4.out)).trans HG4.out)
      have HY5 := Lib.hid ((hb.block _ (heap_lt HY4.out)).trans HY4.out)
      have HZ5 := Lib.hid ((hb.block _ (heap_lt HZ4.out)).trans HZ4.out)
      have HB5 := Lib.hid (HB4.out.trans (hb.mono HB4.out.size))
      have HR5 := Lib.hid (HR4.out.below hb)
      have HGR5 := Lib.hid (HGR4.out.below hb)
      have HD5 := Lib.hid (HD4.out.below hb)
      clear hb
      clear x0 x1 g0 g1 y0 y1
      generalize backI g.steps done m = zz at *
      have z0 := (blk_cl (k := 0) HZ5.out rfl).1
      have z0' := (blk_cl (k := 0) HZ5.out rfl).2
      have z1 := (blk_cl (k := 1) HZ5.out rfl).1
      have z1' := (blk_cl (k := 1) HZ5.out rfl).2
      go_wp2_with fail
      have hres := set21 (u := .slice A4 m c4) (set20 (u := .int .i64 zz) HZ5.out)
      have e0 := (blk_cl (k := 0) hres rfl).1
      have e1 := (blk_cl (k := 1) hres rfl).1
      exact bodyPost_ret (v := .tuple #[.agg #[.int .i64 zz, .slice A4 m c4], .bool true]) (by simp [results, Try.results31, go_sem, e0, e1]) rfl ⟨_, _, _, by rw [HE.out.1, HE.out.2], by rw [HE.out.1]; exact row_mono (row_set (row_set HROW5.out HZ5.out (by decide)) (set20 HZ5.out) (by decide)) HBASE.out, (HB5.out.setCell (p := ⟨w.heap.size + 1 + 1 + 1, 0, none⟩) (by show w.heap.size ≤ w.heap.size + 1 + 1 + 1; omega) _).setCell (p := ⟨w.heap.size + 1 + 1 + 1, 1, none⟩) (by show w.heap.size ≤ w.heap.size + 1 + 1 + 1; omega) _⟩

set_option maxRecDepth 100000 in
set_option maxHeartbeats 2000000 in
theorem fitS_any (A G B : Option Addr) (n c ng cg m d : Nat) (f g : Flow) (st : Int) (done : List Str) (lo log lo' : Nat) (w : World) (hr : RStep w lo A n f.steps) (hok : okSteps f.steps) (hg : RStep w log G ng g.steps) (hokg : okSteps g.steps) (hd : RStr w lo' B m done) (hm : m ≤ 1048576) (hmd : m ≤ d) :
    Calls Try.prog 61 #[.agg #[.int .i64 f.ver, .slice A n c], .agg #[.int .i64 g.ver, .slice G ng cg], .agg #[.int .i64 st, .slice B m d]] w fun e w' => ∃ B' n' d', e = .returned (.tuple #[.agg #[.int .i64 (fitR f g st done).1, .slice B' n' d'], .bool (fitB f g st done)]) ∧
      w'.ownsRow w.heap.size 9 1 (.slice B' n' d') n' ((fitR f g st done).2.map Value.string) ∧ Below w.heap.size w w' := by
  have HX := Lib.hid (heap_old (o := .cells #[.int .i64 0, .slice none 0 0] 48) (heap_old (o := .cells #[.int .i64 st, .slice B m d] 48) (heap_old (o := .cells #[.int .i64 g.ver, .slice G ng cg] 34) (heap_new (w := w) (o := .cells #[.int .i64 f.ver, .slice A n c] 34) rfl))))
  have HG := Lib.hid (heap_old (o := .cells #[.int .i64 0, .slice none 0 0] 48) (heap_old (o := .cells #[.int .i64 st, .slice B m d] 48) (heap_new (w := w.alloc (.cells #[.int .i64 f.ver, .slice A n c] 34)) (b := w.heap.size + 1) (o := .cells #[.int .i64 g.ver, .slice G ng cg] 34) (by simp))))
  have HY := Lib.hid (heap_old (o := .cells #[.int .i64 0, .slice none 0 0] 48) (heap_new (w := (w.alloc (.cells #[.int .i64 f.ver, .slice A n c] 34)).alloc (.cells #[.int .i64 g.ver, .slice G ng cg] 34)) (b := w.heap.size + 1 + 1) (o := .cells #[.int .i64 st, .slice B m d] 48) (by simp)))
  have HZ := Lib.hid (heap_new (w := ((w.alloc (.cells #[.int .i64 f.ver, .slice A n c] 34)).alloc (.cells #[.int .i64 g.ver, .slice G ng cg] 34)).alloc (.cells #[.int .i64 st, .slice B m d] 48)) (b := w.heap.size + 1 + 1 + 1) (o := .cells #[.int .i64 0, .slice none 0 0] 48) (by simp))
  have HB := Lib.hid (((((Below.refl w.heap.size w).alloc (Nat.le_refl _) (.cells #[.int .i64 f.ver, .slice A n c] 34)).alloc (by simp) (.cells #[.int .i64 g.ver, .slice G ng cg] 34)).alloc (by simp; omega) (.cells #[.int .i64 st, .slice B m d] 48)).alloc (by simp; omega) (.cells #[.int .i64 0, .slice none 0 0] 48))
  have HR := Lib.hid ((((hr.alloc (.cells #[.int .i64 f.ver, .slice A n c] 34)).alloc (.cells #[.int .i64 g.ver, .slice G ng cg] 34)).alloc (.cells #[.int .i64 st, .slice B m d] 48)).alloc (.cells #[.int .i64 0, .slice none 0 0] 48)); clear hr
  have HGR := Lib.hid ((((hg.alloc (.cells #[.int .i64 f.ver, .slice A n c] 34)).alloc (.cells #[.int .i64 g.ver, .slice G ng cg] 34)).alloc (.cells #[.int .i64 st, .slice B m d] 48)).alloc (.cells #[.int .i64 0, .slice none 0 0] 48)); clear hg
  have HD := Lib.hid ((((hd.alloc (.cells #[.int .i64 f.ver, .slice A n c] 34)).alloc (.cells #[.int .i64 g.ver, .slice G ng cg] 34)).alloc (.cells #[.int .i64 st, .slice B m d] 48)).alloc (.cells #[.int .i64 0, .slice none 0 0] 48)); clear hd
  have HLm := Lib.hid HD.out.1
  have HLg := Lib.hid HGR.out.1
  have hng : ng ≤ 1048576 := by have := hokg.1; rw [HLg.out] at this; exact this
  go_enter Try.func61, Try.ntmps61
  go_wp2_with fail
  refine (runS_any _ _ _ _ _ _ f st done _ _ _ HR.out hok HD.out hm hmd).mono ?_
  rintro e w1 ⟨rfl, hb⟩
  have HX1 := Lib.hid ((hb.block _ (heap_lt HX.out)).trans HX.out)
  have HG1 := Lib.hid ((hb.block _ (heap_lt HG.out)).trans HG.out)
  have HY1 := Lib.hid ((hb.block _ (heap_lt HY.out)).trans HY.out)
  have HZ1 := Lib.hid ((hb.block _ (heap_lt HZ.out)).trans HZ.out)
  have HB1 := Lib.hid (HB.out.trans (hb.mono HB.out.size))
  have HR1 := Lib.hid (HR.out.below hb)
  have HGR1 := Lib.hid (HGR.out.below hb)
  have HD1 := Lib.hid (HD.out.below hb)
  clear hb
  cases hrun : runB f st done
  · have hfb : fitB f g st done = false := by unfold fitB; rw [hrun]; rfl
    have HE := Lib.hid (show fitR f g st done = (0, []) ∧ fitB f g st done = false from ⟨fitR_no hfb, hfb⟩)
    clear hrun hfb
    have z0 := (blk_cl (k := 0) HZ1.out rfl).1
    have z0' := (blk_cl (k := 0) HZ1.out rfl).2
    have z1 := (blk_cl (k := 1) HZ1.out rfl).1
    have z1' := (blk_cl (k := 1) HZ1.out rfl).2
    go_wp2_with fail
    have hres := set21 (u := .slice none 0 0) (set20 (u := .int .i64 0) HZ1.out)
    have e0 := (blk_cl (k := 0) hres rfl).1
    have e1 := (blk_cl (k := 1) hres rfl).1
    exact bodyPost_ret (v := .tuple #[.agg #[.int .i64 0, .slice none 0 0], .bool false]) (by simp [results, Try.results61, go_sem, e0, e1]) rfl ⟨none, 0, 0, by rw [HE.out.1, HE.out.2], by rw [HE.out.1]; exact own_nil, (HB1.out.setCell (p := ⟨w.heap.size + 1 + 1 + 1, 0, none⟩) (by show w.heap.size ≤ w.heap.size + 1 + 1 + 1; omega) _).setCell (p := ⟨w.heap.size + 1 + 1 + 1, 1, none⟩) (by show w.heap.size ≤ w.heap.size + 1 + 1 + 1; omega) _⟩
  have x0 := (blk_cl (k := 0) HX1.out rfl).1
  have x1 := (blk_cl (k := 1) HX1.out rfl).1
  have g0 := (blk_cl (k := 0) HG1.out rfl).1
  have g1 := (blk_cl (k := 1) HG1.out rfl).1
  have y0 := (blk_cl (k := 0) HY1.out rfl).1
  have y1 := (blk_cl (k := 1) HY1.out rfl).1
  go_wp2_with fail
  refine (flowS_any _ _ _ g _ _ HGR1.out hokg).mono ?_
  rintro e w2 ⟨rfl, hb⟩
  have HX2 := Lib.hid ((hb.block _ (heap_lt HX1.out)).trans HX1.out)
  have HG2 := Lib.hid ((hb.block _ (heap_lt HG1.out)).trans HG1.out)
  have HY2 := Lib.hid ((hb.block _ (heap_lt HY1.out)).trans HY1.out)
  have HZ2 := Lib.hid ((hb.block _ (heap_lt HZ1.out)).trans HZ1.out)
  have HB2 := Lib.hid (HB1.out.trans (hb.mono HB1.out.size))
  have HR2 := Lib.hid (HR1.out.below hb)
  have HGR2 := Lib.hid (HGR1.out.below hb)
  have HD2 := Lib.hid (HD1.out.below hb)
  clear hb
  clear x0 x1 g0 g1 y0 y1
  cases hfg : flowB g
  · have hfb : fitB f g st done = false := by unfold fitB; rw [hrun, hfg]; rfl
    have HE := Lib.hid (show fitR f g st done = (0, []) ∧ fitB f g st done = false from ⟨fitR_no hfb, hfb⟩)
    clear hrun hfb hfg
    have z0 := (blk_cl (k := 0) HZ2.out rfl).1
    have z0' := (blk_cl (k := 0) HZ2.out rfl).2
    have z1 := (blk_cl (k := 1) HZ2.out rfl).1
    have z1' := (blk_cl (k := 1) HZ2.out rfl).2
    go_wp2_with fail
    have hres := set21 (u := .slice none 0 0) (set20 (u := .int .i64 0) HZ2.out)
    have e0 := (blk_cl (k := 0) hres rfl).1
    have e1 := (blk_cl (k := 1) hres rfl).1
    exact bodyPost_ret (v := .tuple #[.agg #[.int .i64 0, .slice none 0 0], .bool false]) (by simp [results, Try.results61, go_sem, e0, e1]) rfl ⟨none, 0, 0, by rw [HE.out.1, HE.out.2], by rw [HE.out.1]; exact own_nil, (HB2.out.setCell (p := ⟨w.heap.size + 1 + 1 + 1, 0, none⟩) (by show w.heap.size ≤ w.heap.size + 1 + 1 + 1; omega) _).setCell (p := ⟨w.heap.size + 1 + 1 + 1, 1, none⟩) (by show w.heap.size ≤ w.heap.size + 1 + 1 + 1; omega) _⟩
  have x0 := (blk_cl (k := 0) HX2.out rfl).1
  have x1 := (blk_cl (k := 1) HX2.out rfl).1
  have g0 := (blk_cl (k := 0) HG2.out rfl).1
  have g1 := (blk_cl (k := 1) HG2.out rfl).1
  have y0 := (blk_cl (k := 0) HY2.out rfl).1
  have y1 := (blk_cl (k := 1) HY2.out rfl).1
  go_wp2_with fail
  refine (l3Order_any _ _ _ _ _ _ g.steps done _ _ _ HGR2.out hokg HD2.out hm hmd).mono ?_
  rintro e w3 ⟨rfl, q3, hq3⟩
  have hb : Below w2.heap.size w2 w3 := by rw [hq3]; exact below_drewN (Below.refl _ _) _
  clear hq3
  have HX3 := Lib.hid ((hb.block _ (heap_lt HX2.out)).trans HX2.out)
  have HG3 := Lib.hid ((hb.block _ (heap_lt HG2.out)).trans HG2.out)
  have HY3 := Lib.hid ((hb.block _ (heap_lt HY2.out)).trans HY2.out)
  have HZ3 := Lib.hid ((hb.block _ (heap_lt HZ2.out)).trans HZ2.out)
  have HB3 := Lib.hid (HB2.out.trans (hb.mono HB2.out.size))
  have HR3 := Lib.hid (HR2.out.below hb)
  have HGR3 := Lib.hid (HGR2.out.below hb)
  have HD3 := Lib.hid (HD2.out.below hb)
  clear hb
  clear x0 x1 g0 g1 y0 y1
  cases ho : ordB g.steps done
  · have hfb : fitB f g st done = false := by unfold fitB; rw [hrun, hfg, ho]; rfl
    have HE := Lib.hid (show fitR f g st done = (0, []) ∧ fitB f g st done = false from ⟨fitR_no hfb, hfb⟩)
    clear hrun hfb hfg ho
    have z0 := (blk_cl (k := 0) HZ3.out rfl).1
    have z0' := (blk_cl (k := 0) HZ3.out rfl).2
    have z1 := (blk_cl (k := 1) HZ3.out rfl).1
    have z1' := (blk_cl (k := 1) HZ3.out rfl).2
    go_wp2_with fail
    have hres := set21 (u := .slice none 0 0) (set20 (u := .int .i64 0) HZ3.out)
    have e0 := (blk_cl (k := 0) hres rfl).1
    have e1 := (blk_cl (k := 1) hres rfl).1
    exact bodyPost_ret (v := .tuple #[.agg #[.int .i64 0, .slice none 0 0], .bool false]) (by simp [results, Try.results61, go_sem, e0, e1]) rfl ⟨none, 0, 0, by rw [HE.out.1, HE.out.2], by rw [HE.out.1]; exact own_nil, (HB3.out.setCell (p := ⟨w.heap.size + 1 + 1 + 1, 0, none⟩) (by show w.heap.size ≤ w.heap.size + 1 + 1 + 1; omega) _).setCell (p := ⟨w.heap.size + 1 + 1 + 1, 1, none⟩) (by show w.heap.size ≤ w.heap.size + 1 + 1 + 1; omega) _⟩
  have hst := run_state hrun
  have HORD := Lib.hid ho
  have HBASE := Lib.hid HB3.out.size
  by_cases hs : st = 1 ∨ st = 3
  · by_cases hmn : m = ng
    · have hfb : fitB f g st done = false := by
        unfold fitB
        have e0 : decide (st = 0) = false := by rw [decide_eq_false_iff_not]; omega
        have e2 : decide (st = 2) = false := by rw [decide_eq_false_iff_not]; omega
        have e3 : decide (done.length = g.steps.length) = true := by rw [decide_eq_true_iff, HLm.out, HLg.out]; exact hmn
        rw [e0, e2, e3]; simp
      have HE := Lib.hid (show fitR f g st done = (0, []) ∧ fitB f g st done = false from ⟨fitR_no hfb, hfb⟩)
      clear hrun hfb hfg ho hst
      have qm : ((m : Int) == (ng : Int)) = true := by rw [beq_iff_eq]; omega
      have x0 := (blk_cl (k := 0) HX3.out rfl).1
      have x1 := (blk_cl (k := 1) HX3.out rfl).1
      have g0 := (blk_cl (k := 0) HG3.out rfl).1
      have g1 := (blk_cl (k := 1) HG3.out rfl).1
      have y0 := (blk_cl (k := 0) HY3.out rfl).1
      have y1 := (blk_cl (k := 1) HY3.out rfl).1
      rcases hs with rfl | rfl
      · have z0 := (blk_cl (k := 0) HZ3.out rfl).1
        have z0' := (blk_cl (k := 0) HZ3.out rfl).2
        have z1 := (blk_cl (k := 1) HZ3.out rfl).1
        have z1' := (blk_cl (k := 1) HZ3.out rfl).2
        go_wp2_with fail
        have hres := set21 (u := .slice none 0 0) (set20 (u := .int .i64 0) HZ3.out)
        have e0 := (blk_cl (k := 0) hres rfl).1
        have e1 := (blk_cl (k := 1) hres rfl).1
        exact bodyPost_ret (v := .tuple #[.agg #[.int .i64 0, .slice none 0 0], .bool false]) (by simp [results, Try.results61, go_sem, e0, e1]) rfl ⟨none, 0, 0, by rw [HE.out.1, HE.out.2], by rw [HE.out.1]; exact own_nil, (HB3.out.setCell (p := ⟨w.heap.size + 1 + 1 + 1, 0, none⟩) (by show w.heap.size ≤ w.heap.size + 1 + 1 + 1; omega) _).setCell (p := ⟨w.heap.size + 1 + 1 + 1, 1, none⟩) (by show w.heap.size ≤ w.heap.size + 1 + 1 + 1; omega) _⟩
      · have z0 := (blk_cl (k := 0) HZ3.out rfl).1
        have z0' := (blk_cl (k := 0) HZ3.out rfl).2
        have z1 := (blk_cl (k := 1) HZ3.out rfl).1
        have z1' := (blk_cl (k := 1) HZ3.out rfl).2
        go_wp2_with fail
        have hres := set21 (u := .slice none 0 0) (set20 (u := .int .i64 0) HZ3.out)
        have e0 := (blk_cl (k := 0) hres rfl).1
        have e1 := (blk_cl (k := 1) hres rfl).1
        exact bodyPost_ret (v := .tuple #[.agg #[.int .i64 0, .slice none 0 0], .bool false]) (by simp [results, Try.results61, go_sem, e0, e1]) rfl ⟨none, 0, 0, by rw [HE.out.1, HE.out.2], by rw [HE.out.1]; exact own_nil, (HB3.out.setCell (p := ⟨w.heap.size + 1 + 1 + 1, 0, none⟩) (by show w.heap.size ≤ w.heap.size + 1 + 1 + 1; omega) _).setCell (p := ⟨w.heap.size + 1 + 1 + 1, 1, none⟩) (by show w.heap.size ≤ w.heap.size + 1 + 1 + 1; omega) _⟩
    · have hfb : fitB f g st done = true := by
        unfold fitB
        have e3 : decide (done.length = g.steps.length) = false := by rw [decide_eq_false_iff_not, HLm.out, HLg.out]; exact hmn
        rw [hrun, hfg, ho, e3]; simp
      have HE := Lib.hid (show fitR f g st done = (backI g.steps done m, done) ∧ fitB f g st done = true from ⟨by rw [fitR_yes hfb, if_neg (by omega), HLm.out], hfb⟩)
      have qm : ((m : Int) == (ng : Int)) = false := by rw [beq_eq_false_iff_ne]; omega
      clear hrun hfb hfg ho hst
      have x0 := (blk_cl (k := 0) HX3.out rfl).1
      have x1 := (blk_cl (k := 1) HX3.out rfl).1
      have g0 := (blk_cl (k := 0) HG3.out rfl).1
      have g1 := (blk_cl (k := 1) HG3.out rfl).1
      have y0 := (blk_cl (k := 0) HY3.out rfl).1
      have y1 := (blk_cl (k := 1) HY3.out rfl).1
      rcases hs with rfl | rfl
      · go_wp2_with fail
        refine (backS_any _ _ _ _ _ _ g done _ _ _ HGR3.out hokg HD3.out hm HORD.out).mono ?_
        rintro e w5 ⟨A4, c4, rfl, ho5, hb⟩
        have HROW5 := Lib.hid ho5; clear ho5
        have HX5 := Lib.hid ((hb.block _ (heap_lt HX3.out)).trans HX3.out)
        have HG5 := Lib.hid ((hb.block _ (heap_lt HG3.out)).trans HG3.out)
        have HY5 := Lib.hid ((hb.block _ (heap_lt HY3.out)).trans HY3.out)
        have HZ5 := Lib.hid ((hb.block _ (heap_lt HZ3.out)).trans HZ3.out)
        have HB5 := Lib.hid (HB3.out.trans (hb.mono HB3.out.size))
        have HR5 := Lib.hid (HR3.out.below hb)
        have HGR5 := Lib.hid (HGR3.out.below hb)
        have HD5 := Lib.hid (HD3.out.below hb)
        clear hb
        clear x0 x1 g0 g1 y0 y1
        generalize backI g.steps done m = zz at *
        have z0 := (blk_cl (k := 0) HZ5.out rfl).1
        have z0' := (blk_cl (k := 0) HZ5.out rfl).2
        have z1 := (blk_cl (k := 1) HZ5.out rfl).1
        have z1' := (blk_cl (k := 1) HZ5.out rfl).2
        go_wp2_with fail
        have hres := set21 (u := .slice A4 m c4) (set20 (u := .int .i64 zz) HZ5.out)
        have e0 := (blk_cl (k := 0) hres rfl).1
        have e1 := (blk_cl (k := 1) hres rfl).1
        exact bodyPost_ret (v := .tuple #[.agg #[.int .i64 zz, .slice A4 m c4], .bool true]) (by simp [results, Try.results61, go_sem, e0, e1]) rfl ⟨_, _, _, by rw [HE.out.1, HE.out.2], by rw [HE.out.1]; exact row_mono (row_set (row_set HROW5.out HZ5.out (by decide)) (set20 HZ5.out) (by decide)) HBASE.out, (HB5.out.setCell (p := ⟨w.heap.size + 1 + 1 + 1, 0, none⟩) (by show w.heap.size ≤ w.heap.size + 1 + 1 + 1; omega) _).setCell (p := ⟨w.heap.size + 1 + 1 + 1, 1, none⟩) (by show w.heap.size ≤ w.heap.size + 1 + 1 + 1; omega) _⟩
      · go_wp2_with fail
        refine (backS_any _ _ _ _ _ _ g done _ _ _ HGR3.out hokg HD3.out hm HORD.out).mono ?_
        rintro e w5 ⟨A4, c4, rfl, ho5, hb⟩
        have HROW5 := Lib.hid ho5; clear ho5
        have HX5 := Lib.hid ((hb.block _ (heap_lt HX3.out)).trans HX3.out)
        have HG5 := Lib.hid ((hb.block _ (heap_lt HG3.out)).trans HG3.out)
        have HY5 := Lib.hid ((hb.block _ (heap_lt HY3.out)).trans HY3.out)
        have HZ5 := Lib.hid ((hb.block _ (heap_lt HZ3.out)).trans HZ3.out)
        have HB5 := Lib.hid (HB3.out.trans (hb.mono HB3.out.size))
        have HR5 := Lib.hid (HR3.out.below hb)
        have HGR5 := Lib.hid (HGR3.out.below hb)
        have HD5 := Lib.hid (HD3.out.below hb)
        clear hb
        clear x0 x1 g0 g1 y0 y1
        generalize backI g.steps done m = zz at *
        have z0 := (blk_cl (k := 0) HZ5.out rfl).1
        have z0' := (blk_cl (k := 0) HZ5.out rfl).2
        have z1 := (blk_cl (k := 1) HZ5.out rfl).1
        have z1' := (blk_cl (k := 1) HZ5.out rfl).2
        go_wp2_with fail
        have hres := set21 (u := .slice A4 m c4) (set20 (u := .int .i64 zz) HZ5.out)
        have e0 := (blk_cl (k := 0) hres rfl).1
        have e1 := (blk_cl (k := 1) hres rfl).1
        exact bodyPost_ret (v := .tuple #[.agg #[.int .i64 zz, .slice A4 m c4], .bool true]) (by simp [results, Try.results61, go_sem, e0, e1]) rfl ⟨_, _, _, by rw [HE.out.1, HE.out.2], by rw [HE.out.1]; exact row_mono (row_set (row_set HROW5.out HZ5.out (by decide)) (set20 HZ5.out) (by decide)) HBASE.out, (HB5.out.setCell (p := ⟨w.heap.size + 1 + 1 + 1, 0, none⟩) (by show w.heap.size ≤ w.heap.size + 1 + 1 + 1; omega) _).setCell (p := ⟨w.heap.size + 1 + 1 + 1, 1, none⟩) (by show w.heap.size ≤ w.heap.size + 1 + 1 + 1; omega) _⟩
  · have hs2 : st = 0 ∨ st = 2 := by omega
    have hfb : fitB f g st done = true := by unfold fitB; rw [hrun, hfg, ho]; rcases hs2 with rfl | rfl <;> simp
    have HE1 := Lib.hid (show fitR f g st done = (forthI m ng, done) ∧ fitB f g st done = true from ⟨by rw [fitR_yes hfb, if_pos hs2, HLm.out, HLg.out], hfb⟩)
    clear hrun hfb hfg ho hst
    have q1 : (st == 1) = false := by rw [beq_eq_false_iff_ne]; omega
    have q3 : (st == 3) = false := by rw [beq_eq_false_iff_ne]; omega
    have HN := Lib.hid (own_new (w0 := w) (b := w3.heap.size) HB3.out rfl)
    have HDA := Lib.hid (HD3.out.alloc (.cells #[] 9))
    have HZA := Lib.hid (heap_old (o := .cells #[] 9) HZ3.out)
    have hs3 := heap_lt HZ3.out
    have y1a := (blk_cl (k := 1) (heap_old (o := .cells #[] 9) HY3.out) rfl).1
    have x0 := (blk_cl (k := 0) HX3.out rfl).1
    have x1 := (blk_cl (k := 1) HX3.out rfl).1
    have g0 := (blk_cl (k := 0) HG3.out rfl).1
    have g1 := (blk_cl (k := 1) HG3.out rfl).1
    have y0 := (blk_cl (k := 0) HY3.out rfl).1
    have y1 := (blk_cl (k := 1) HY3.out rfl).1
    by_cases hmn : m = ng
    · have qm : ((m : Int) == (ng : Int)) = true := by rw [beq_iff_eq]; omega
      have HE := Lib.hid (show fitR f g st done = (2, done) ∧ fitB f g st done = true from ⟨by rw [HE1.out.1]; unfold forthI; rw [if_pos hmn], HE1.out.2⟩)
      clear hmn HE1
      go_wp2_with (at_builtin; refine apps_str w _ 0 [] _ B m d done HN.out HDA.out rfl (.tmp 49) (.tmp 51) rfl rfl rfl (by omega) ?_)
      intro v4 w4 how4 hg4
      have HZ4 := Lib.hid (grown_blk hg4 HZA.out (by simp [Value.ownBlock]; omega))
      obtain ⟨A4, c4, rfl, _⟩ := own_str how4.row
      have HO4 := Lib.hid how4.row
      have HB4 := Lib.hid how4.below
      clear how4 hg4
      have HZ5 := Lib.hid (heap_old (o := .cells #[.int .i64 2, .slice A4 m c4] 48) HZ4.out)
      have HB5 := Lib.hid (HB4.out.alloc HB4.out.size (.cells #[.int .i64 2, .slice A4 m c4] 48))
      have HROW5 := Lib.hid (HO4.out.alloc (.cells #[.int .i64 2, .slice A4 m c4] 48))
      have z0 := (blk_cl (k := 0) HZ5.out rfl).1
      have z0' := (blk_cl (k := 0) HZ5.out rfl).2
      have z1 := (blk_cl (k := 1) HZ5.out rfl).1
      have z1' := (blk_cl (k := 1) HZ5.out rfl).2
      go_wp2_with fail
      have hres := set21 (u := .slice A4 m c4) (set20 (u := .int .i64 2) HZ5.out)
      have e0 := (blk_cl (k := 0) hres rfl).1
      have e1 := (blk_cl (k := 1) hres rfl).1
      exact bodyPost_ret (v := .tuple #[.agg #[.int .i64 2, .slice A4 m c4], .bool true]) (by simp [results, Try.results61, go_sem, e0, e1]) rfl ⟨_, _, _, by rw [HE.out.1, HE.out.2], by rw [HE.out.1]; exact (row_set (row_set HROW5.out HZ5.out (by decide)) (set20 HZ5.out) (by decide)), (HB5.out.setCell (p := ⟨w.heap.size + 1 + 1 + 1, 0, none⟩) (by show w.heap.size ≤ w.heap.size + 1 + 1 + 1; omega) _).setCell (p := ⟨w.heap.size + 1 + 1 + 1, 1, none⟩) (by show w.heap.size ≤ w.heap.size + 1 + 1 + 1; omega) _⟩
    · have qm : ((m : Int) == (ng : Int)) = false := by rw [beq_eq_false_iff_ne]; omega
      have HE := Lib.hid (show fitR f g st done = (0, done) ∧ fitB f g st done = true from ⟨by rw [HE1.out.1]; unfold forthI; rw [if_neg hmn], HE1.out.2⟩)
      clear hmn HE1
      go_wp2_with (at_builtin; refine apps_str w _ 0 [] _ B m d done HN.out HDA.out rfl (.tmp 49) (.tmp 51) rfl rfl rfl (by omega) ?_)
      intro v4 w4 how4 hg4
      have HZ4 := Lib.hid (grown_blk hg4 HZA.out (by simp [Value.ownBlock]; omega))
      obtain ⟨A4, c4, rfl, _⟩ := own_str how4.row
      have HO4 := Lib.hid how4.row
      have HB4 := Lib.hid how4.below
      clear how4 hg4
      have HZ5 := Lib.hid (heap_old (o := .cells #[.int .i64 0, .slice A4 m c4] 48) HZ4.out)
      have HB5 := Lib.hid (HB4.out.alloc HB4.out.size (.cells #[.int .i64 0, .slice A4 m c4] 48))
      have HROW5 := Lib.hid (HO4.out.alloc (.cells #[.int .i64 0, .slice A4 m c4] 48))
      have z0 := (blk_cl (k := 0) HZ5.out rfl).1
      have z0' := (blk_cl (k := 0) HZ5.out rfl).2
      have z1 := (blk_cl (k := 1) HZ5.out rfl).1
      have z1' := (blk_cl (k := 1) HZ5.out rfl).2
      go_wp2_with fail
      have hres := set21 (u := .slice A4 m c4) (set20 (u := .int .i64 0) HZ5.out)
      have e0 := (blk_cl (k := 0) hres rfl).1
      have e1 := (blk_cl (k := 1) hres rfl).1
      exact bodyPost_ret (v := .tuple #[.agg #[.int .i64 0, .slice A4 m c4], .bool true]) (by simp [results, Try.results61, go_sem, e0, e1]) rfl ⟨_, _, _, by rw [HE.out.1, HE.out.2], by rw [HE.out.1]; exact (row_set (row_set HROW5.out HZ5.out (by decide)) (set20 HZ5.out) (by decide)), (HB5.out.setCell (p := ⟨w.heap.size + 1 + 1 + 1, 0, none⟩) (by show w.heap.size ≤ w.heap.size + 1 + 1 + 1; omega) _).setCell (p := ⟨w.heap.size + 1 + 1 + 1, 1, none⟩) (by show w.heap.size ≤ w.heap.size + 1 + 1 + 1; omega) _⟩
end Go.Proofs.Ytakeijgoonagcaa

/- Pools moved to another flow, the program's side. -/
namespace Go.Proofs.Ytakeijgoonagcaa
open Go.RowKit

theorem fitR_len (f g : Flow) (st : Int) (done : List Str) : (fitR f g st done).2.length ≤ done.length := by
  cases h : fitB f g st done
  · rw [fitR_no h]; exact Nat.zero_le _
  · rw [fitR_yes h]; exact Nat.le_refl _
theorem flow_cells {w : World} {b : Nat} {v0 v1 : Value} (h : w.heap[b]? = some (.cells #[v0, v1] 34)) : w.cell? ⟨b, 0, none⟩ = some v0 ∧ w.cell? ⟨b, 1, none⟩ = some v1 := ⟨(blk_cl (k := 0) h rfl).1, (blk_cl (k := 1) h rfl).1⟩
set_option maxRecDepth 100000 in
set_option maxHeartbeats 1000000 in
theorem mv1_any (A G B : Option Addr) (n c ng cg m d bf bg : Nat) (f g : Flow) (st : Int) (done : List Str) (lo log lo' : Nat) (w : World) (hf : w.heap[bf]? = some (.cells #[.int .i64 f.ver, .slice A n c] 34)) (hgc : w.heap[bg]? = some (.cells #[.int .i64 g.ver, .slice G ng cg] 34)) (hr : RStep w lo A n f.steps) (hok : okSteps f.steps) (hg : RStep w log G ng g.steps) (hokg : okSteps g.steps) (hd : RStr w lo' B m done) (hm : m ≤ 1048576) (hmd : m ≤ d) :
    Calls Try.prog 65 #[.agg #[.int .i64 st, .slice B m d], .pointer (some ⟨bf, 0, none⟩), .pointer (some ⟨bg, 0, none⟩)] w fun e w' => ∃ B' n' d', e = .returned (.tuple #[.agg #[.int .i64 (fitR f g st done).1, .slice B' n' d'], .bool (fitB f g st done)]) ∧
      w'.ownsRow w.heap.size 9 1 (.slice B' n' d') n' ((fitR f g st done).2.map Value.string) ∧ Below w.heap.size w w' := by
  have HX := Lib.hid (heap_old (o := .cells #[.int .i64 0, .slice none 0 0] 48) (heap_new (w := w) (o := .cells #[.int .i64 st, .slice B m d] 48) rfl))
  have HZ := Lib.hid (heap_new (w := w.alloc (.cells #[.int .i64 st, .slice B m d] 48)) (b := w.heap.size + 1) (o := .cells #[.int .i64 0, .slice none 0 0] 48) (by simp))
  have HB := Lib.hid (((Below.refl w.heap.size w).alloc (Nat.le_refl _) (.cells #[.int .i64 st, .slice B m d] 48)).alloc (by simp) (.cells #[.int .i64 0, .slice none 0 0] 48))
  have HR := Lib.hid ((hr.alloc (.cells #[.int .i64 st, .slice B m d] 48)).alloc (.cells #[.int .i64 0, .slice none 0 0] 48)); clear hr
  have HGR := Lib.hid ((hg.alloc (.cells #[.int .i64 st, .slice B m d] 48)).alloc (.cells #[.int .i64 0, .slice none 0 0] 48)); clear hg
  have HD := Lib.hid ((hd.alloc (.cells #[.int .i64 st, .slice B m d] 48)).alloc (.cells #[.int .i64 0, .slice none 0 0] 48)); clear hd
  obtain ⟨f0, f1⟩ := flow_cells (heap_old (o := .cells #[.int .i64 0, .slice none 0 0] 48) (heap_old (o := .cells #[.int .i64 st, .slice B m d] 48) hf))
  obtain ⟨g0, g1⟩ := flow_cells (heap_old (o := .cells #[.int .i64 0, .slice none 0 0] 48) (heap_old (o := .cells #[.int .i64 st, .slice B m d] 48) hgc))
  have x0 := (blk_cl (k := 0) HX.out rfl).1
  have x1 := (blk_cl (k := 1) HX.out rfl).1
  clear hf hgc
  go_enter Try.func65, Try.ntmps65
  go_wp2_with fail
  refine (fitI_any _ _ _ _ _ _ _ _ _ f g st done _ _ _ _ HR.out hok HGR.out hokg HD.out hm hmd).mono ?_
  rintro e w1 ⟨B1, n1, d1, rfl, how, hb⟩
  have HROW1 := Lib.hid how; clear how
  have HZ1 := Lib.hid ((hb.block _ (heap_lt HZ.out)).trans HZ.out)
  have HB1 := Lib.hid (HB.out.trans (hb.mono HB.out.size))
  have HBASE := Lib.hid HB.out.size
  clear hb x0 x1 f0 f1 g0 g1
  have z0 := (blk_cl (k := 0) HZ1.out rfl).1
  have z0' := (blk_cl (k := 0) HZ1.out rfl).2
  have z1 := (blk_cl (k := 1) HZ1.out rfl).1
  have z1' := (blk_cl (k := 1) HZ1.out rfl).2
  generalize eR : fitR f g st done = R at *
  generalize eB : fitB f g st done = bb at *
  go_wp2_with fail
  have hres := set21 (u := .slice B1 n1 d1) (set20 (u := .int .i64 R.1) HZ1.out)
  have e0 := (blk_cl (k := 0) hres rfl).1
  have e1 := (blk_cl (k := 1) hres rfl).1
  exact bodyPost_ret (v := .tuple #[.agg #[.int .i64 R.1, .slice B1 n1 d1], .bool bb]) (by simp [results, Try.results65, go_sem, e0, e1]) rfl ⟨B1, n1, d1, by rw [eR, eB], by rw [eR]; exact row_mono (row_set (row_set HROW1.out HZ1.out (by decide)) (set20 HZ1.out) (by decide)) HBASE.out, (HB1.out.setCell (p := ⟨w.heap.size + 1, 0, none⟩) (by show w.heap.size ≤ w.heap.size + 1; omega) _).setCell (p := ⟨w.heap.size + 1, 1, none⟩) (by show w.heap.size ≤ w.heap.size + 1; omega) _⟩

structure SplM (f g : Flow) (w wr : World) (k : Nat) (v1 v2 : Value) (n1 n2 : Nat) (cs : List Case) : Prop where
  row : KRowD wr w.heap.size v2.ownBlock w.heap.size wr.heap.size v1 n1 (mvL f g (cs.take k))
  nms : wr.ownsRow w.heap.size 9 1 v2 n2 ((mvN f g (cs.take k)).map Value.string)
  below : Below w.heap.size w wr

set_option maxRecDepth 100000 in
set_option maxHeartbeats 2000000 in
theorem splitM_any (A G B : Option Addr) (n c ng cg m d bf bg : Nat) (f g : Flow) (cs : List Case) (lo log lo' : Nat) (w : World) (hf : w.heap[bf]? = some (.cells #[.int .i64 f.ver, .slice A n c] 34)) (hgc : w.heap[bg]? = some (.cells #[.int .i64 g.ver, .slice G ng cg] 34)) (hr : RStep w lo A n f.steps) (hok : okSteps f.steps) (hg : RStep w log G ng g.steps) (hokg : okSteps g.steps) (hd : RCase w lo' B m cs) (hcs : okCases cs) :
    Calls Try.prog 64 #[.slice B m d, .func (.func 65) #[] #[.pointer (some ⟨bf, 0, none⟩), .pointer (some ⟨bg, 0, none⟩)]] w fun e w' => ∃ B' m' d' C k e', e = .returned (.tuple #[.slice B' m' d', .slice C k e']) ∧
      DX w' w.heap.size B' m' (mvL f g cs) (Value.slice C k e').ownBlock ∧ m' ≤ d' ∧ w'.ownsRow w.heap.size 9 1 (.slice C k e') k ((mvN f g cs).map Value.string) ∧ Below w.heap.size w w' := by
  have HL := Lib.hid hd.1
  have HF := Lib.hid hf; clear hf
  have HG := Lib.hid hgc; clear hgc
  have HR := Lib.hid hr; clear hr
  have HGR := Lib.hid hg; clear hg
  have hm : m ≤ 1048576 := by have := hcs.1; rw [hd.1] at this; exact this
  have HD := Lib.hid hd; clear hd
  have HC := Lib.hid hcs; clear hcs
  go_enter Try.func64, Try.ntmps64
  go_wp2_with fail
  go_loopw [6, 7, 14] (fun v1 v2 i wr => ∃ k n1 n2 : Nat, k ≤ m ∧ i = .int .i64 (k : Int) ∧ SplM f g w wr k v1 v2 n1 n2 cs) (fun _ _ i _ => m - (intOf i).toNat)
  case atStart => exact ⟨0, 0, 0, Nat.zero_le _, rfl, KRowD.nil, own_nil, Below.refl _ _⟩
  case round =>
    obtain ⟨wo, rfl⟩ : ∃ wo : World, wo = wr := ⟨_, rfl⟩
    obtain ⟨k, n1, n2, hk, rfl, hI⟩ := hrel
    have HI := Lib.hid hI; clear hI
    obtain ⟨A1, c1, rfl, _⟩ := HI.out.row.row.hat
    obtain ⟨A2, c2, rfl, _⟩ := own_sstr HI.out.nms
    have hn1 : n1 ≤ k := by
      have h1 := HI.out.row.row.len
      have h2 := mv_len f g (cs.take k)
      rw [List.length_take] at h2
      omega
    have hn2 : n2 ≤ k := by
      have h1 := HI.out.nms.1
      have h2 := mv_len f g (cs.take k)
      rw [List.length_take] at h2
      simp at h1
      omega
    by_cases hlt : k < m
    · obtain ⟨b, off, rfl, _, hc⟩ := RCase.at_ (HD.out.below HI.out.below) hlt
      obtain ⟨A', n', c', ⟨d1, d2, d3⟩, hdr, hnc, _⟩ := hc k hlt
      clear hc
      have hkl : k < cs.length := by rw [HL.out]; exact hlt
      have hn' : n' ≤ 1048576 := by rw [← hdr.1]; exact (HC.out.2 k hkl).2
      have HDR := Lib.hid (hdr.alloc (.cells #[.string (nth cs k).name, .int .i64 (nth cs k).st, .slice A' n' c'] 52)); clear hdr
      have HX := Lib.hid (heap_new (w := wo) (o := .cells #[.string (nth cs k).name, .int .i64 (nth cs k).st, .slice A' n' c'] 52) rfl)
      have HROW := Lib.hid (HI.out.row.alloc (.cells #[.string (nth cs k).name, .int .i64 (nth cs k).st, .slice A' n' c'] 52))
      have HNMS := Lib.hid (HI.out.nms.alloc (.cells #[.string (nth cs k).name, .int .i64 (nth cs k).st, .slice A' n' c'] 52))
      have HB := Lib.hid (HI.out.below.alloc HI.out.below.size (.cells #[.string (nth cs k).name, .int .i64 (nth cs k).st, .slice A' n' c'] 52))
      have HFW := Lib.hid (heap_old (o := .cells #[.string (nth cs k).name, .int .i64 (nth cs k).st, .slice A' n' c'] 52) ((HI.out.below.block _ (heap_lt HF.out)).trans HF.out))
      have HGW := Lib.hid (heap_old (o := .cells #[.string (nth cs k).name, .int .i64 (nth cs k).st, .slice A' n' c'] 52) ((HI.out.below.block _ (heap_lt HG.out)).trans HG.out))
      have HRW := Lib.hid ((HR.out.below HI.out.below).alloc (.cells #[.string (nth cs k).name, .int .i64 (nth cs k).st, .slice A' n' c'] 52))
      have HGRW := Lib.hid ((HGR.out.below HI.out.below).alloc (.cells #[.string (nth cs k).name, .int .i64 (nth cs k).st, .slice A' n' c'] 52))
      go_wp2_with fail
      refine (mv1_any _ _ A' _ _ _ _ n' c' bf bg f g (nth cs k).st (nth cs k).done _ _ _ _ HFW.out HGW.out HRW.out hok HGRW.out hokg HDR.out hn' hnc).mono ?_
      rintro e w3 ⟨B5, n5, d5, rfl, how5, hb3⟩
      have HX3 := Lib.hid (heap_old (o := .cells #[.int .i64 (fitR f g (nth cs k).st (nth cs k).done).1, .slice B5 n5 d5] 48) ((hb3.block _ (heap_lt HX.out)).trans HX.out))
      have HY3 := Lib.hid (heap_new (w := w3) (o := .cells #[.int .i64 (fitR f g (nth cs k).st (nth cs k).done).1, .slice B5 n5 d5] 48) rfl)
      have HROW3 := Lib.hid ((HROW.out.below hb3).alloc (.cells #[.int .i64 (fitR f g (nth cs k).st (nth cs k).done).1, .slice B5 n5 d5] 48))
      have HNMS3 := Lib.hid ((row_below HNMS.out hb3).alloc (.cells #[.int .i64 (fitR f g (nth cs k).st (nth cs k).done).1, .slice B5 n5 d5] 48))
      have HB3a := HB.out.trans (hb3.mono HB.out.size)
      have HB3 := Lib.hid (HB3a.alloc HB3a.size (.cells #[.int .i64 (fitR f g (nth cs k).st (nth cs k).done).1, .slice B5 n5 d5] 48))
      obtain ⟨B5', d5', e5, hrs5⟩ := own_str how5
      injection e5 with e5 _ e5'
      subst e5; subst e5'
      have hn5 : n5 ≤ 1048576 := by have := fitR_len f g (nth cs k).st (nth cs k).done; have h2 := hrs5.1; have h3 := HC.out.2 k hkl; omega
      clear how5
      have HDR3 := Lib.hid (hrs5.alloc (.cells #[.int .i64 (fitR f g (nth cs k).st (nth cs k).done).1, .slice B5 n5 d5] 48))
      have HNE := Lib.hid (fun b (h : (Value.slice A2 n2 c2).ownBlock = some b) => (by
        obtain ⟨cur, hcur⟩ := row_blk HNMS3.out h
        exact HROW3.out.row.ne hcur (by decide) : (Value.slice A1 n1 c1).ownBlock ≠ some b))
      have hs3 : wo.heap.size < w3.heap.size := by have := hb3.size; simp at this; omega
      clear hb3 HB3a HX HROW HNMS HB HDR d1 d2 d3 HFW HGW HRW HGRW hrs5
      generalize eZ : (fitR f g (nth cs k).st (nth cs k).done).1 = zs at *
      have x0 := (blk_cl (k := 0) HX3.out rfl).1
      have y0 := (blk_cl (k := 0) HY3.out rfl).1
      have y1 := (blk_cl (k := 1) HY3.out rfl).1
      go_upto_region 7 with fail
      generalize ewk : w3.alloc (.cells #[.int .i64 zs, .slice B5 n5 d5] 48) = wk at *
      have hsk : w3.heap.size < wk.heap.size := heap_lt HY3.out
      have hsk2 : wo.heap.size < wk.heap.size := by omega
      clear ewk
      cases hgo : fitB f g (nth cs k).st (nth cs k).done
      · have HT1 := Lib.hid (mv_no hkl hgo)
        have HT2 := Lib.hid (mvN_no hkl hgo)
        clear hgo
        go_wp2_with (at_builtin; refine app_strW w.heap.size (.slice A2 n2 c2) n2 (mvN f g (cs.take k)) _ (nth cs k).name ?c0 rfl (.tmp 34) (.tmp 37) rfl rfl rfl ?c1 (by omega) ?c2 ?_)
        case c0 => exact HNMS3.out.alloc _
        case c1 => exact heap_new rfl
        case c2 => have := HB3.out.size; simp; omega
        intro v8 w8 hrow8 hg8 hat8
        replace hrow8 : w8.ownsRow w.heap.size 9 1 v8 (n2 + 1) ((mvN f g (cs.take k) ++ [(nth cs k).name]).map Value.string) := by rw [List.map_append]; exact hrow8
        have HR8 := Lib.hid hrow8; clear hrow8
        have HB8 := Lib.hid ((HB3.out.alloc HB3.out.size (.cells #[.string (nth cs k).name] 9)).grown hg8 (by have := HB3.out.size; simp; omega) (fun b hb => (HNMS3.out.lt b hb).1))
        have hat9 : v8.ownBlock = (Value.slice A2 n2 c2).ownBlock ∨ v8.ownBlock = some (wk.alloc (.cells #[.string (nth cs k).name] 9)).heap.size := by simpa using hat8
        have hs8 : wo.heap.size ≤ w8.heap.size := by have := hg8.size; (try simp at this); omega
        have HK8 := Lib.hid (((HROW3.out.alloc (.cells #[.string (nth cs k).name] 9)).grown hg8 (fun b hb he => HNE.out b he hb) hat9).wide (Nat.le_refl _) hs8)
        clear hg8 hat8 hat9 x0 y0 y1
        go_wp2_with fail
        go_roundw
        case rel => exact ⟨k + 1, n1, n2 + 1, by omega, by go_num, ⟨by rw [HT1.out]; exact HK8.out, by rw [HT2.out]; exact HR8.out, HB8.out⟩⟩
        case measure => simp [intOf]; omega
      · have HT1 := Lib.hid (mv_yes hkl hgo)
        have HT2 := Lib.hid (mvN_yes hkl hgo)
        clear hgo
        have hsw : w.heap.size ≤ wk.heap.size := HB3.out.size
        have HSB : Hid (∀ w', Below wk.heap.size wk w' → (w'.cell? ⟨wo.heap.size, 0, none⟩ = some (.string (nth cs k).name) ∧ w'.cell? ⟨w3.heap.size, 0, none⟩ = some (.int .i64 zs) ∧ w'.cell? ⟨w3.heap.size, 1, none⟩ = some (.slice B5 n5 d5)) ∧ Below wk.heap.size wk w') := fun w' h =>
          ⟨⟨(blk_cl (k := 0) ((h.block _ (heap_lt HX3.out)).trans HX3.out) rfl).1, (blk_cl (k := 0) ((h.block _ (heap_lt HY3.out)).trans HY3.out) rfl).1, (blk_cl (k := 1) ((h.block _ (heap_lt HY3.out)).trans HY3.out) rfl).1⟩, h⟩
        have HKP : Hid (∀ {w5 w7 : World} {o : Obj}, Below wk.heap.size wk w5 → (w5.alloc o).grownBy w7 (Value.slice A1 n1 c1).ownBlock → (w7.cell? ⟨wo.heap.size, 0, none⟩ = some (.string (nth cs k).name) ∧ w7.cell? ⟨w3.heap.size, 0, none⟩ = some (.int .i64 zs) ∧ w7.cell? ⟨w3.heap.size, 1, none⟩ = some (.slice B5 n5 d5))) := fun {w5 w7 o} h hg => by
          have n1' : (Value.slice A1 n1 c1).ownBlock ≠ some wo.heap.size := fun e => by
            have h1 := (KRow.lt HI.out.row.row e).2
            omega
          have n2' : (Value.slice A1 n1 c1).ownBlock ≠ some w3.heap.size := fun e => by
            have h1 := (KRow.lt HI.out.row.row e).2
            omega
          have e1 := grown_blk hg (heap_old (o := o) ((h.block _ (heap_lt HX3.out)).trans HX3.out)) n1'
          have e2 := grown_blk hg (heap_old (o := o) ((h.block _ (heap_lt HY3.out)).trans HY3.out)) n2'
          exact ⟨(blk_cl (k := 0) e1 rfl).1, (blk_cl (k := 0) e2 rfl).1, (blk_cl (k := 1) e2 rfl).1⟩
        go_wp2_with fail
        go_region_held3 (fun w' => w'.cell? ⟨wo.heap.size, 0, none⟩ = some (.string (nth cs k).name) ∧ w'.cell? ⟨w3.heap.size, 0, none⟩ = some (.int .i64 zs) ∧ w'.cell? ⟨w3.heap.size, 1, none⟩ = some (.slice B5 n5 d5))
          (first | exact hk7 | exact (HSB.out _ (Below.refl _ _).drew).1 | exact (HSB.out _ hbw).1 | exact (HSB.out _ (hbw.alloc hbw.size _)).1 | fail "keep")
          (first
            | (go_at_call 129; refine (cloneRun_any _ _ _ zs (fitR f g (nth cs k).st (nth cs k).done).2 _ _ (HDR3.out.below (Below.refl _ _).drew) hn5).mono ?_; rintro e w5 ⟨A5, c5, rfl, hss5, hc5, hb5⟩; have hbw : Below wk.heap.size wk w5 := (Below.refl wk.heap.size wk).drew.trans hb5)
            | (refine case_stepD (o := ⟨some 33, _, _, _, _, _⟩) w.heap.size w.heap.size wo.heap.size w.heap.size w5.heap.size (Value.slice A2 n2 c2).ownBlock _ n1 (mvL f g (cs.take k)) _ (mvC f g (nth cs k)) A5 n5 c5 (by exact (HROW3.out.below hbw).alloc _) (by exact (hss5.mono hsw).alloc _) hc5 (Nat.le_refl _) (by (have := hbw.size; omega)) (fun b hb hm => by (have h2 := hss5.lt hm hb; have h3 : wk.drew.heap.size = wk.heap.size := rfl; exact ⟨(fun he => by (have h1 := (HNMS3.out.lt b he).2; omega)), Or.inl (by omega), by omega, h2.2⟩)) (by rfl) (.tmp 26) (.tmp 32) (by rfl) (by rfl) (by rfl) (by subst eZ; exact heap_new rfl) (by omega) (by (have h1 := hbw.size; simp; omega)) ?_; intro v7 w7 how7 hg7 hat7; have hk7 := HKP.out hbw hg7)
            | fail "no arm")
        have HB5a := HB3.out.trans (hbw.mono hsw)
        have HN7 := Lib.hid (row_grown ((row_below HNMS3.out hbw).alloc (.cells #[.string (nth cs k).name, .int .i64 zs, .slice A5 n5 c5] 52)) hg7 (fun b hb => HNE.out b hb))
        have HB7 := Lib.hid ((HB5a.alloc HB5a.size (.cells #[.string (nth cs k).name, .int .i64 zs, .slice A5 n5 c5] 52)).grown hg7 (by have := HB5a.size; simp; omega) (fun b hb => (KRow.lt HI.out.row.row hb).1))
        have hs7 : w5.heap.size ≤ w7.heap.size := by have := hg7.size; (try simp at this); omega
        have HK7 := Lib.hid (how7.wide (Nat.le_refl _) hs7)
        clear how7 hg7 hat7 hk7 hss5 hb5 hbw HB5a
        go_wp2_with fail
        go_roundw
        case rel => exact ⟨k + 1, n1 + 1, n2, by omega, by go_num, ⟨by rw [HT1.out]; exact HK7.out, by rw [HT2.out]; exact HN7.out, HB7.out⟩⟩
        case measure => simp [intOf]; omega
    · obtain rfl : k = m := by omega
      have hkm : cs.take k = cs := by rw [← HL.out]; exact List.take_length
      go_wp2_with fail
      obtain ⟨A3, c3, e3, hrc, hcap3⟩ := HI.out.row.drx
      cases e3
      have hnm := HI.out.nms
      rw [hkm] at hrc hnm
      go_ret2
      exact ⟨_, _, _, _, _, _, rfl, hrc, hcap3, hnm, HI.out.below⟩


def pmB (f g : Flow) (cs : List Case) : Bool := poolB f cs && flowB g
def pmL (f g : Flow) (cs : List Case) : List Case := if pmB f g cs = true then mvL f g cs else []
def pmN (f g : Flow) (cs : List Case) : List Str := if pmB f g cs = true then mvN f g cs else []
theorem pmL_yes {f g : Flow} {cs : List Case} (h : pmB f g cs = true) : pmL f g cs = mvL f g cs := by unfold pmL; rw [if_pos h]
theorem pmL_no {f g : Flow} {cs : List Case} (h : pmB f g cs = false) : pmL f g cs = [] := by unfold pmL; rw [if_neg (by rw [h]; simp)]
theorem pmN_yes {f g : Flow} {cs : List Case} (h : pmB f g cs = true) : pmN f g cs = mvN f g cs := by unfold pmN; rw [if_pos h]
theorem pmN_no {f g : Flow} {cs : List Case} (h : pmB f g cs = false) : pmN f g cs = [] := by unfold pmN; rw [if_neg (by rw [h]; simp)]

set_option maxRecDepth 100000 in
theorem pmD_any (A G B : Option Addr) (n c ng cg m d : Nat) (f g : Flow) (cs : List Case) (lo log lo' : Nat) (w : World) (hr : RStep w lo A n f.steps) (hok : okSteps f.steps) (hg : RStep w log G ng g.steps) (hokg : okSteps g.steps) (hd : RCase w lo' B m cs) (hcs : okCases cs) :
    Calls Try.prog 19 #[.agg #[.int .i64 f.ver, .slice A n c], .agg #[.int .i64 g.ver, .slice G ng cg], .slice B m d] w fun e w' => ∃ B' m' d' C k e', e = .returned (.tuple #[.slice B' m' d', .slice C k e', .bool (pmB f g cs)]) ∧
      DX w' w.heap.size B' m' (pmL f g cs) (Value.slice C k e').ownBlock ∧ m' ≤ d' ∧ w'.ownsRow w.heap.size 9 1 (.slice C k e') k ((pmN f g cs).map Value.string) ∧ Below w.heap.size w w' := by
  have HB0 := Lib.hid (((Below.refl w.heap.size w).alloc (Nat.le_refl _) (.cells #[.int .i64 f.ver, .slice A n c] 34)).alloc (by simp) (.cells #[.int .i64 g.ver, .slice G ng cg] 34))
  have HF0 := Lib.hid (heap_old (o := .cells #[.int .i64 g.ver, .slice G ng cg] 34) (heap_new (w := w) (o := .cells #[.int .i64 f.ver, .slice A n c] 34) rfl))
  have HG0 := Lib.hid (heap_new (w := w.alloc (.cells #[.int .i64 f.ver, .slice A n c] 34)) (b := w.heap.size + 1) (o := .cells #[.int .i64 g.ver, .slice G ng cg] 34) (by simp))
  have HD0 := Lib.hid ((hd.alloc (.cells #[.int .i64 f.ver, .slice A n c] 34)).alloc (.cells #[.int .i64 g.ver, .slice G ng cg] 34)); clear hd
  have HR0 := Lib.hid ((hr.alloc (.cells #[.int .i64 f.ver, .slice A n c] 34)).alloc (.cells #[.int .i64 g.ver, .slice G ng cg] 34)); clear hr
  have HGR0 := Lib.hid ((hg.alloc (.cells #[.int .i64 f.ver, .slice A n c] 34)).alloc (.cells #[.int .i64 g.ver, .slice G ng cg] 34)); clear hg
  obtain ⟨x0, x1⟩ := flow_cells HF0.out
  go_enter Try.func19, Try.ntmps19
  go_wp2_with fail
  refine (poolI_any _ _ _ _ _ _ f cs _ _ _ HR0.out hok HD0.out hcs).mono ?_
  rintro e w1 ⟨rfl, hb⟩
  have HB1 := Lib.hid (HB0.out.trans (hb.mono HB0.out.size))
  have HF1 := Lib.hid ((hb.block _ (heap_lt HF0.out)).trans HF0.out)
  have HG1 := Lib.hid ((hb.block _ (heap_lt HG0.out)).trans HG0.out)
  have HD1 := Lib.hid (HD0.out.below hb)
  have HR1 := Lib.hid (HR0.out.below hb)
  have HGR1 := Lib.hid (HGR0.out.below hb)
  clear hb HB0 HD0 HR0 HGR0 HF0 HG0 x0 x1
  cases hp : poolB f cs
  · have hpm : pmB f g cs = false := by unfold pmB; rw [hp]; rfl
    have HE1 := Lib.hid (pmL_no hpm)
    have HE2 := Lib.hid (pmN_no hpm)
    have HP := Lib.hid hpm; clear hpm hp
    go_wp2_with fail
    exact bodyPost_ret (v := .tuple #[.slice none 0 0, .slice none 0 0, .bool false]) (by simp [results, Try.results19, go_sem]) rfl ⟨none, 0, 0, none, 0, 0, by rw [HP.out], by rw [HE1.out]; exact DX.nil, Nat.le_refl _, by rw [HE2.out]; exact own_nil, HB1.out⟩
  obtain ⟨g0, g1⟩ := flow_cells HG1.out
  go_wp2_with fail
  refine (flowI_any _ _ _ g _ _ HGR1.out hokg).mono ?_
  rintro e w2 ⟨rfl, hb⟩
  have HB2 := Lib.hid (HB1.out.trans (hb.mono HB1.out.size))
  have HF2 := Lib.hid ((hb.block _ (heap_lt HF1.out)).trans HF1.out)
  have HG2 := Lib.hid ((hb.block _ (heap_lt HG1.out)).trans HG1.out)
  have HD2 := Lib.hid (HD1.out.below hb)
  have HR2 := Lib.hid (HR1.out.below hb)
  have HGR2 := Lib.hid (HGR1.out.below hb)
  clear hb HB1 HD1 HR1 HGR1 HF1 HG1 g0 g1
  cases hfg : flowB g
  · have hpm : pmB f g cs = false := by unfold pmB; rw [hp, hfg]; rfl
    have HE1 := Lib.hid (pmL_no hpm)
    have HE2 := Lib.hid (pmN_no hpm)
    have HP := Lib.hid hpm; clear hpm hp hfg
    go_wp2_with fail
    exact bodyPost_ret (v := .tuple #[.slice none 0 0, .slice none 0 0, .bool false]) (by simp [results, Try.results19, go_sem]) rfl ⟨none, 0, 0, none, 0, 0, by rw [HP.out], by rw [HE1.out]; exact DX.nil, Nat.le_refl _, by rw [HE2.out]; exact own_nil, HB2.out⟩
  · have hpm : pmB f g cs = true := by unfold pmB; rw [hp, hfg]; rfl
    have HE1 := Lib.hid (pmL_yes hpm)
    have HE2 := Lib.hid (pmN_yes hpm)
    have HP := Lib.hid hpm; clear hpm hp hfg
    go_wp2_with fail
    refine (splitM_any _ _ _ _ _ _ _ _ _ w.heap.size (w.heap.size + 1) f g cs _ _ _ _ HF2.out HG2.out HR2.out hok HGR2.out hokg HD2.out hcs).mono ?_
    rintro e w3 ⟨B2, m2, d2, C2, k2, e2, rfl, h1, h2, h3, hb2⟩
    have H1 := Lib.hid h1; clear h1
    have H3 := Lib.hid h3; clear h3
    have HB3 := Lib.hid (HB2.out.trans (hb2.mono HB2.out.size)); clear hb2
    go_wp2_with fail
    exact bodyPost_ret (v := .tuple #[.slice B2 m2 d2, .slice C2 k2 e2, .bool true]) (by simp [results, Try.results19, go_sem]) rfl ⟨B2, m2, d2, C2, k2, e2, by rw [HP.out], by rw [HE1.out]; exact H1.out.lower HB2.out.size, h2, by rw [HE2.out]; exact row_mono H3.out HB2.out.size, HB3.out⟩
end Go.Proofs.Ytakeijgoonagcaa

/- Pools moved to another flow, the reference's side. -/
namespace Go.Proofs.Ytakeijgoonagcaa
open Go.RowKit

structure SplN (f g : Flow) (w wr : World) (k : Nat) (v1 v2 : Value) (n1 n2 : Nat) (cs : List Case) : Prop where
  row : KRowV wr w.heap.size v2.ownBlock v1 n1 (mvL f g (cs.take k))
  nms : wr.ownsRow w.heap.size 9 1 v2 n2 ((mvN f g (cs.take k)).map Value.string)
  below : Below w.heap.size w wr

set_option maxRecDepth 100000 in
set_option maxHeartbeats 4000000 in
theorem pmS_any (A G B : Option Addr) (n c ng cg m d : Nat) (f g : Flow) (cs : List Case) (lo log lo' : Nat) (w : World) (hr : RStep w lo A n f.steps) (hok : okSteps f.steps) (hg : RStep w log G ng g.steps) (hokg : okSteps g.steps) (hd : RCase w lo' B m cs) (hcs : okCases cs) :
    Calls Try.prog 16 #[.agg #[.int .i64 f.ver, .slice A n c], .agg #[.int .i64 g.ver, .slice G ng cg], .slice B m d] w fun e w' => ∃ B' m' d' C k e', e = .returned (.tuple #[.slice B' m' d', .slice C k e', .bool (pmB f g cs)]) ∧
      RCase w' w.heap.size B' m' (pmL f g cs) ∧ m' ≤ d' ∧ RStr w' w.heap.size C k (pmN f g cs) ∧ Below w.heap.size w w' := by
  have HL := Lib.hid hd.1
  have hm : m ≤ 1048576 := by have := hcs.1; rw [hd.1] at this; exact this
  have HC := Lib.hid hcs; clear hcs
  have HDW := Lib.hid hd
  have HRB := Lib.hid hr
  have HGB := Lib.hid hg
  have HB0 := Lib.hid (((((Below.refl w.heap.size w).alloc (Nat.le_refl _) (.cells #[.int .i64 f.ver, .slice A n c] 34)).alloc (by simp) (.cells #[.int .i64 g.ver, .slice G ng cg] 34)).alloc (by simp; omega) (.cells #[] 52)).alloc (by simp; omega) (.cells #[] 9))
  have HD0 := Lib.hid ((((hd.alloc (.cells #[.int .i64 f.ver, .slice A n c] 34)).alloc (.cells #[.int .i64 g.ver, .slice G ng cg] 34)).alloc (.cells #[] 52)).alloc (.cells #[] 9)); clear hd
  have HR0 := Lib.hid ((((hr.alloc (.cells #[.int .i64 f.ver, .slice A n c] 34)).alloc (.cells #[.int .i64 g.ver, .slice G ng cg] 34)).alloc (.cells #[] 52)).alloc (.cells #[] 9)); clear hr
  have HGR0 := Lib.hid ((((hg.alloc (.cells #[.int .i64 f.ver, .slice A n c] 34)).alloc (.cells #[.int .i64 g.ver, .slice G ng cg] 34)).alloc (.cells #[] 52)).alloc (.cells #[] 9)); clear hg
  have HK0 := Lib.hid ((KRowV.made (w := (w.alloc (.cells #[.int .i64 f.ver, .slice A n c] 34)).alloc (.cells #[.int .i64 g.ver, .slice G ng cg] 34)) (base := w.heap.size) (b := w.heap.size + 1 + 1) (av := some (w.heap.size + 1 + 1 + 1)) (by simp; omega) (by simp)).alloc (.cells #[] 9))
  have HN0 := Lib.hid (World.ownsRow_made (base := w.heap.size) (e := 9) (size := 1) (((w.alloc (.cells #[.int .i64 f.ver, .slice A n c] 34)).alloc (.cells #[.int .i64 g.ver, .slice G ng cg] 34)).alloc (.cells #[] 52)) #[] 0 (by simp; omega) (Nat.zero_le _) rfl)
  have hsz : (((w.alloc (.cells #[.int .i64 f.ver, .slice A n c] 34)).alloc (.cells #[.int .i64 g.ver, .slice G ng cg] 34)).alloc (.cells #[] 52)).heap.size = w.heap.size + 1 + 1 + 1 := by simp
  rw [hsz] at HN0
  have HF0 := Lib.hid (heap_old (o := .cells #[] 9) (heap_old (o := .cells #[] 52) (heap_old (o := .cells #[.int .i64 g.ver, .slice G ng cg] 34) (heap_new (w := w) (o := .cells #[.int .i64 f.ver, .slice A n c] 34) rfl))))
  have HG0 := Lib.hid (heap_old (o := .cells #[] 9) (heap_old (o := .cells #[] 52) (heap_new (w := w.alloc (.cells #[.int .i64 f.ver, .slice A n c] 34)) (b := w.heap.size + 1) (o := .cells #[.int .i64 g.ver, .slice G ng cg] 34) (by simp))))
  obtain ⟨x0, x1⟩ := flow_cells HF0.out
  clear hsz
  go_enter Try.func16, Try.ntmps16
  go_wp2_with fail
  refine (poolS_any _ _ _ _ _ _ f cs _ _ _ HR0.out hok HD0.out HC.out).mono ?_
  rintro e w1 ⟨rfl, hb⟩
  have HB1 := Lib.hid (HB0.out.trans (hb.mono HB0.out.size))
  have HK1 := Lib.hid (HK0.out.below hb)
  have HN1 := Lib.hid (row_below HN0.out hb)
  have HF1 := Lib.hid ((hb.block _ (heap_lt HF0.out)).trans HF0.out)
  have HG1 := Lib.hid ((hb.block _ (heap_lt HG0.out)).trans HG0.out)
  have HGR1 := Lib.hid (HGR0.out.below hb)
  clear hb HB0 HD0 HK0 HN0 HR0 HGR0 HF0 HG0 x0 x1
  cases hp : poolB f cs
  · have hpm : pmB f g cs = false := by unfold pmB; rw [hp]; rfl
    have HE1 := Lib.hid (pmL_no hpm)
    have HE2 := Lib.hid (pmN_no hpm)
    have HP := Lib.hid hpm; clear hpm hp
    go_wp2_with fail
    exact bodyPost_ret (v := .tuple #[.slice (some ⟨w.heap.size + 1 + 1, 0, none⟩) 0 0, .slice (some ⟨w.heap.size + 1 + 1 + 1, 0, none⟩) 0 0, .bool false]) (by simp [results, Try.results16, go_sem]) rfl ⟨_, 0, 0, _, 0, 0, by rw [HP.out], by rw [HE1.out]; exact RL.nil, Nat.le_refl _, by rw [HE2.out]; exact RL.nil, HB1.out⟩
  obtain ⟨g0, g1⟩ := flow_cells HG1.out
  go_wp2_with fail
  refine (flowS_any _ _ _ g _ _ HGR1.out hokg).mono ?_
  rintro e w2 ⟨rfl, hb⟩
  have HB2 := Lib.hid (HB1.out.trans (hb.mono HB1.out.size))
  have HK2 := Lib.hid (HK1.out.below hb)
  have HN2 := Lib.hid (row_below HN1.out hb)
  have HF2 := Lib.hid ((hb.block _ (heap_lt HF1.out)).trans HF1.out)
  have HG2 := Lib.hid ((hb.block _ (heap_lt HG1.out)).trans HG1.out)
  clear hb HB1 HK1 HN1 HGR1 HF1 HG1 g0 g1
  cases hfg : flowB g
  · have hpm : pmB f g cs = false := by unfold pmB; rw [hp, hfg]; rfl
    have HE1 := Lib.hid (pmL_no hpm)
    have HE2 := Lib.hid (pmN_no hpm)
    have HP := Lib.hid hpm; clear hpm hp hfg
    go_wp2_with fail
    exact bodyPost_ret (v := .tuple #[.slice (some ⟨w.heap.size + 1 + 1, 0, none⟩) 0 0, .slice (some ⟨w.heap.size + 1 + 1 + 1, 0, none⟩) 0 0, .bool false]) (by simp [results, Try.results16, go_sem]) rfl ⟨_, 0, 0, _, 0, 0, by rw [HP.out], by rw [HE1.out]; exact RL.nil, Nat.le_refl _, by rw [HE2.out]; exact RL.nil, HB2.out⟩
  have hpm : pmB f g cs = true := by unfold pmB; rw [hp, hfg]; rfl
  have HE1 := Lib.hid (pmL_yes hpm)
  have HE2 := Lib.hid (pmN_yes hpm)
  have HP := Lib.hid hpm; clear hpm hp hfg
  have HBF := Lib.hid (fun wr (h : Below w2.heap.size w2 wr) => And.intro ((h.block _ (heap_lt HF2.out)).trans HF2.out) ((h.block _ (heap_lt HG2.out)).trans HG2.out))
  go_wp2_with fail
  go_loopw [9, 10, 11] (fun v1 v2 i wr => ∃ k n1 n2 : Nat, k ≤ m ∧ i = .int .i64 (k : Int) ∧ SplN f g w wr k v1 v2 n1 n2 cs ∧ (wr.heap[w.heap.size]? = some (.cells #[.int .i64 f.ver, .slice A n c] 34) ∧ wr.heap[w.heap.size + 1]? = some (.cells #[.int .i64 g.ver, .slice G ng cg] 34))) (fun _ _ i _ => m - (intOf i).toNat)
  case atStart => exact ⟨0, 0, 0, Nat.zero_le _, rfl, ⟨HK2.out, HN2.out, HB2.out⟩, HF2.out, HG2.out⟩
  case round =>
    obtain ⟨wo, rfl⟩ : ∃ wo : World, wo = wr := ⟨_, rfl⟩
    obtain ⟨k, n1, n2, hk, rfl, hI, hFW, hGW⟩ := hrel
    have HI := Lib.hid hI; clear hI
    have HFW := Lib.hid hFW; clear hFW
    have HGW := Lib.hid hGW; clear hGW
    obtain ⟨A1, c1, rfl, _⟩ := HI.out.row.row.hat
    obtain ⟨A2, c2, rfl, _⟩ := own_sstr HI.out.nms
    have hn1 : n1 ≤ k := by
      have h1 := HI.out.row.row.len
      have h2 := mv_len f g (cs.take k)
      rw [List.length_take] at h2
      omega
    have hn2 : n2 ≤ k := by
      have h1 := HI.out.nms.1
      have h2 := mv_len f g (cs.take k)
      rw [List.length_take] at h2
      simp at h1
      omega
    by_cases hlt : k < m
    · obtain ⟨b, off, rfl, ⟨_, hbw⟩, hc⟩ := RCase.at_ HDW.out hlt
      obtain ⟨A', n', c', ⟨d1, d2, d3⟩, hdr, hnc, _⟩ := hc k hlt
      clear hc
      have hso := HI.out.below.size
      have hblo : b < wo.heap.size := by omega
      have hkl : k < cs.length := by rw [HL.out]; exact hlt
      have hn' : n' ≤ 1048576 := by rw [← hdr.1]; exact (HC.out.2 k hkl).2
      have HDR := Lib.hid (hdr.below HI.out.below); clear hdr
      have D1 := Lib.hid ((HI.out.below.cell (p := ⟨b, off + k * 3, none⟩) hbw).trans d1)
      have D2 := Lib.hid ((HI.out.below.cell (p := ⟨b, off + k * 3 + 1, none⟩) hbw).trans d2)
      have D3 := Lib.hid ((HI.out.below.cell (p := ⟨b, off + k * 3 + 2, none⟩) hbw).trans d3)
      clear d1 d2 d3
      have HRW := Lib.hid (HRB.out.below HI.out.below)
      have HGRW := Lib.hid (HGB.out.below HI.out.below)
      have hk0 : (0 : Int) ≤ (k : Int) := by omega
      have hk1 : (k : Int) < (m : Int) := by omega
      have hk2 : ¬ ((k : Int) < 0) := by omega
      have HNE := Lib.hid (fun b (h : (Value.slice A2 n2 c2).ownBlock = some b) => (by
        obtain ⟨cur, hcur⟩ := row_blk HI.out.nms h
        exact HI.out.row.row.ne hcur (by decide) : (Value.slice A1 n1 c1).ownBlock ≠ some b))
      have HSB : Hid (∀ w', Below wo.heap.size wo w' → ((w'.cell? ⟨w.heap.size, 0, none⟩ = some (.int .i64 f.ver) ∧ w'.cell? ⟨w.heap.size, 1, none⟩ = some (.slice A n c)) ∧ (w'.cell? ⟨w.heap.size + 1, 0, none⟩ = some (.int .i64 g.ver) ∧ w'.cell? ⟨w.heap.size + 1, 1, none⟩ = some (.slice G ng cg)) ∧ (w'.cell? ⟨b, off + k * 3 + 1, none⟩ = some (.int .i64 (nth cs k).st) ∧ w'.cell? ⟨b, off + k * 3 + 2, none⟩ = some (.slice A' n' c'))) ∧ Below wo.heap.size wo w') := fun w' h => by
        have e1 := (h.block _ (heap_lt HFW.out)).trans HFW.out
        have e2 := (h.block _ (heap_lt HGW.out)).trans HGW.out
        exact ⟨⟨flow_cells e1, flow_cells e2, ⟨(h.cell (p := ⟨b, off + k * 3 + 1, none⟩) hblo).trans D2.out, (h.cell (p := ⟨b, off + k * 3 + 2, none⟩) hblo).trans D3.out⟩⟩, h⟩
      go_wp2_with fail
      go_region_held3 (fun w' => ((w'.cell? ⟨w.heap.size, 0, none⟩ = some (.int .i64 f.ver) ∧ w'.cell? ⟨w.heap.size, 1, none⟩ = some (.slice A n c)) ∧ (w'.cell? ⟨w.heap.size + 1, 0, none⟩ = some (.int .i64 g.ver) ∧ w'.cell? ⟨w.heap.size + 1, 1, none⟩ = some (.slice G ng cg)) ∧ (w'.cell? ⟨b, off + k * 3 + 1, none⟩ = some (.int .i64 (nth cs k).st) ∧ w'.cell? ⟨b, off + k * 3 + 2, none⟩ = some (.slice A' n' c'))) ∧ Below wo.heap.size wo w')
        ((refine HSB.out _ ?_; (repeat (first | with_reducible exact hbw | with_reducible exact Below.refl _ _ | apply Below.drew | apply Below.al_ | refine Below.setCell ?_ (by first | exact Nat.le_refl _ | exact hbw.size) _ | fail "x")); done))
        (first | (go_at_call 61; refine (fitS_any _ _ _ _ _ _ _ _ _ f g (nth cs k).st (nth cs k).done _ _ _ _ (HRW.out.below (by repeat (first | with_reducible exact Below.refl _ _ | apply Below.drew | apply Below.al_))) hok (HGRW.out.below (by repeat (first | with_reducible exact Below.refl _ _ | apply Below.drew | apply Below.al_))) hokg (HDR.out.below (by repeat (first | with_reducible exact Below.refl _ _ | apply Below.drew | apply Below.al_))) hn' hnc).mono ?_; rintro e w5 ⟨B5, n5, d5, rfl, ho5, hb5⟩; have hz5 := (hb5.block wo.heap.size (by simp)).trans (heap_new (w := wo) (b := wo.heap.size) (o := .cells #[.int .i64 0, .slice none 0 0] 48) rfl); have q0 := (blk_cl (k := 0) hz5 rfl).1; have q0' := (blk_cl (k := 0) hz5 rfl).2; have q1 := (blk_cl (k := 1) hz5 rfl).1; have q1' := (blk_cl (k := 1) hz5 rfl).2; have hbw : Below wo.heap.size wo w5 := (Below.al_ (Below.refl wo.heap.size wo).drew _).trans (hb5.mono (by simp)); have hbs : wo.heap.size ≤ (wo.alloc (.cells #[.int .i64 0, .slice none 0 0] 48)).drew.heap.size := by simp) | (go_at_call 61; refine (fitS_any _ _ _ _ _ _ _ _ _ f g (nth cs k).st (nth cs k).done _ _ _ _ (HRW.out.below (by repeat (first | with_reducible exact Below.refl _ _ | apply Below.drew | apply Below.al_))) hok (HGRW.out.below (by repeat (first | with_reducible exact Below.refl _ _ | apply Below.drew | apply Below.al_))) hokg (HDR.out.below (by repeat (first | with_reducible exact Below.refl _ _ | apply Below.drew | apply Below.al_))) hn' hnc).mono ?_; rintro e w5 ⟨B5, n5, d5, rfl, ho5, hb5⟩; have hbw : Below wo.heap.size wo w5 := (Below.refl wo.heap.size wo).drew.trans hb5; have hbs : wo.heap.size ≤ wo.drew.heap.size := Nat.le_refl _) | fail "no arm")
      · have hbox := heap_new (w := w5) (o := .cells #[.int .i64 (fitR f g (nth cs k).st (nth cs k).done).1, .slice B5 n5 d5] 48) rfl
        have hb6 : Below wo.heap.size wo (w5.alloc (.cells #[.int .i64 (fitR f g (nth cs k).st (nth cs k).done).1, .slice B5 n5 d5] 48)) := Below.al_ hbw _
        have hrow := row_mono (ho5.alloc (.cells #[.int .i64 (fitR f g (nth cs k).st (nth cs k).done).1, .slice B5 n5 d5] 48)) hbs
        have hpb : wo.heap.size ≤ w5.heap.size := hbw.size
        generalize w5.alloc (.cells #[.int .i64 (fitR f g (nth cs k).st (nth cs k).done).1, .slice B5 n5 d5] 48) = w6 at *
        generalize w5.heap.size = pb at *
        clear hbw hbs
        have HBX := Lib.hid hbox; clear hbox
        have HB6 := Lib.hid hb6; clear hb6
        have hcap := own_capN hrow
        obtain ⟨A8, c8, e8, hss⟩ := own_sstr hrow
        injection e8 with e8 _ e9
        subst e8; subst e9
        have HSS := Lib.hid hss; clear hss hrow
        clear ho5 hb5 HSB
        have HK6 := Lib.hid (HI.out.row.below HB6.out)
        have HN6 := Lib.hid (row_below HI.out.nms HB6.out)
        have HW6 := Lib.hid (HI.out.below.trans (HB6.out.mono HI.out.below.size))
        have hs6 := HB6.out.size
        have hw6 := HW6.out.size
        have D16 := Lib.hid ((HB6.out.cell (p := ⟨b, off + k * 3, none⟩) hblo).trans D1.out)
        have HFL6 := Lib.hid (And.intro ((HB6.out.block _ (heap_lt HFW.out)).trans HFW.out) ((HB6.out.block _ (heap_lt HGW.out)).trans HGW.out))
        cases hfit : fitB f g (nth cs k).st (nth cs k).done
        · have HT1 := Lib.hid (mv_no hkl hfit)
          have HT2 := Lib.hid (mvN_no hkl hfit)
          clear hfit
          generalize fitR f g (nth cs k).st (nth cs k).done = v at *
          have d1 := D16.out
          go_wp2_with (at_builtin; refine app_strW w.heap.size (.slice A2 n2 c2) n2 (mvN f g (cs.take k)) _ (nth cs k).name ?c0 rfl (.tmp 55) (.tmp 61) rfl rfl rfl ?c1 (by omega) ?c2 ?_)
          case c0 => exact HN6.out.alloc _
          case c1 => first | exact heap_new rfl | exact Array.getElem_push_eq
          case c2 => have := HW6.out.size; simp; omega
          intro v8 w8 hrow8 hg8 hat8
          replace hrow8 : w8.ownsRow w.heap.size 9 1 v8 (n2 + 1) ((mvN f g (cs.take k) ++ [(nth cs k).name]).map Value.string) := by rw [List.map_append]; exact hrow8
          have HR8 := Lib.hid hrow8; clear hrow8
          have HB8 := Lib.hid ((HW6.out.alloc HW6.out.size (.cells #[.string (nth cs k).name] 9)).grown hg8 (by have := HW6.out.size; simp; omega) (fun b hb => (HN6.out.lt b hb).1))
          have hat9 : v8.ownBlock = (Value.slice A2 n2 c2).ownBlock ∨ v8.ownBlock = some (w6.alloc (.cells #[.string (nth cs k).name] 9)).heap.size := by simpa using hat8
          have HK8 := Lib.hid ((HK6.out.alloc (.cells #[.string (nth cs k).name] 9)).grown hg8 (fun b hb he => HNE.out b he hb) hat9)
          have HFL8 := Lib.hid (And.intro (grown_blk hg8 (heap_old HFL6.out.1) (fun e => by have := HN6.out.lt _ e; obtain ⟨cur, hcur⟩ := row_blk HN6.out e; rw [HFL6.out.1] at hcur; injection hcur with h1; injection h1 with _ h2; exact absurd h2 (by decide))) (grown_blk hg8 (heap_old HFL6.out.2) (fun e => by obtain ⟨cur, hcur⟩ := row_blk HN6.out e; rw [HFL6.out.2] at hcur; injection hcur with h1; injection h1 with _ h2; exact absurd h2 (by decide))))
          clear hg8 hat8 hat9
          go_wp2_with fail
          go_roundw
          case rel => exact ⟨k + 1, n1, n2 + 1, by omega, by go_num, ⟨by rw [HT1.out]; exact HK8.out, by rw [HT2.out]; exact HR8.out, HB8.out⟩, HFL8.out⟩
          case measure => simp [intOf]; omega
        · have HT1 := Lib.hid (mv_yes hkl hfit)
          have HT2 := Lib.hid (mvN_yes hkl hfit)
          clear hfit
          have HMC : Hid (mvC f g (nth cs k) = ⟨(nth cs k).name, (fitR f g (nth cs k).st (nth cs k).done).1, (fitR f g (nth cs k).st (nth cs k).done).2⟩) := Lib.hid rfl
          generalize fitR f g (nth cs k).st (nth cs k).done = v at *
          have HSC : Hid (∀ w', Below w6.heap.size w6 w' → w'.cell? ⟨b, off + k * 3, none⟩ = some (.string (nth cs k).name) ∧ w'.cell? ⟨pb, 0, none⟩ = some (.int .i64 v.1) ∧ w'.cell? ⟨pb, 1, none⟩ = some (.slice B5 n5 d5)) := fun w' h =>
            ⟨(h.cell (p := ⟨b, off + k * 3, none⟩) (by show b < w6.heap.size; omega)).trans D16.out, (blk_cl (k := 0) ((h.block _ (heap_lt HBX.out)).trans HBX.out) rfl).1, (blk_cl (k := 1) ((h.block _ (heap_lt HBX.out)).trans HBX.out) rfl).1⟩
          have HKP : Hid (∀ {w5 w7 : World} {o : Obj}, Below w6.heap.size w6 w5 → (w5.alloc o).grownBy w7 (Value.slice A1 n1 c1).ownBlock → (w7.cell? ⟨b, off + k * 3, none⟩ = some (.string (nth cs k).name) ∧ w7.cell? ⟨pb, 0, none⟩ = some (.int .i64 v.1) ∧ w7.cell? ⟨pb, 1, none⟩ = some (.slice B5 n5 d5))) := fun {w5 w7 o} h hg => by
            have n1' : (Value.slice A1 n1 c1).ownBlock ≠ some b := fun e => by
              have h1 := (KRow.lt HI.out.row.row e).1
              omega
            have n2' : (Value.slice A1 n1 c1).ownBlock ≠ some pb := fun e => by
              have h1 := (KRow.lt HI.out.row.row e).2
              omega
            have h5 := h.size
            have e2 := grown_blk hg (heap_old (o := o) ((h.block _ (heap_lt HBX.out)).trans HBX.out)) n2'
            have hblk : w7.heap[b]? = w6.heap[b]? := (hg.block b (by simp; omega) (Ne.symm n1')).trans ((h.alloc h.size o).block b (by omega))
            exact ⟨(World.cell?_of_block (a := ⟨b, off + k * 3, none⟩) hblk).trans D16.out, (blk_cl (k := 0) e2 rfl).1, (blk_cl (k := 1) e2 rfl).1⟩
          go_wp2_with fail
          go_region_held3 (fun w' => w'.cell? ⟨b, off + k * 3, none⟩ = some (.string (nth cs k).name) ∧ w'.cell? ⟨pb, 0, none⟩ = some (.int .i64 v.1) ∧ w'.cell? ⟨pb, 1, none⟩ = some (.slice B5 n5 d5))
            (first | exact hk7 | exact HSC.out _ (Below.refl _ _).drew | exact HSC.out _ ((Below.refl w6.heap.size w6).drew.alloc (Nat.le_refl _) _) | fail "keep")
            (first
              | (refine case_stepV (o := ⟨some 54, _, _, _, _, _⟩) w.heap.size (Value.slice A2 n2 c2).ownBlock _ n1 (mvL f g (cs.take k)) _ ⟨(nth cs k).name, v.1, v.2⟩ B5 n5 d5 (by exact (HK6.out.below (Below.refl _ _).drew).alloc _) (by exact ((HSS.out.mono hso).below (Below.refl _ _).drew).alloc _) hcap (fun b hb hm he => by (have h1 := (HI.out.nms.lt b he).2; have h2 := (HSS.out.lt hm hb).1; omega)) (by rfl) (.tmp 45) (.tmp 53) (by rfl) (by rfl) (by rfl) (by exact heap_new rfl) (by omega) (by (have h1 := HW6.out.size; simp; omega)) ?_; intro v7 w7 how7 hg7 hat7; have hk7 := HKP.out (Below.refl w6.heap.size w6).drew hg7)
              | fail "no arm")
          have HN7 := Lib.hid (row_grown ((row_below HN6.out (Below.refl w6.heap.size w6).drew).alloc (.cells #[.string (nth cs k).name, .int .i64 v.1, .slice B5 n5 d5] 52)) hg7 (fun b hb => HNE.out b hb))
          have HB6a := HW6.out.drew
          have HB7 := Lib.hid ((HB6a.alloc HB6a.size (.cells #[.string (nth cs k).name, .int .i64 v.1, .slice B5 n5 d5] 52)).grown hg7 (by have := HB6a.size; simp; omega) (fun b hb => (KRow.lt HI.out.row.row hb).1))
          have HK7 := Lib.hid how7
          have HFL7 := Lib.hid (And.intro (grown_blk hg7 (heap_old (w := w6.drew) HFL6.out.1) (HK6.out.row.ne HFL6.out.1 (by decide))) (grown_blk hg7 (heap_old (w := w6.drew) HFL6.out.2) (HK6.out.row.ne HFL6.out.2 (by decide))))
          clear how7 hg7 hat7 hk7 HB6a
          go_wp2_with fail
          go_roundw
          case rel => exact ⟨k + 1, n1 + 1, n2, by omega, by go_num, ⟨by rw [HT1.out, HMC.out]; exact HK7.out, by rw [HT2.out]; exact HN7.out, HB7.out⟩, HFL7.out⟩
          case measure => simp [intOf]; omega
      · have hbox := set21 (u := .slice B5 n5 d5) (set20 (u := .int .i64 (fitR f g (nth cs k).st (nth cs k).done).1) hz5)
        have hb6 : Below wo.heap.size wo ((w5.setCell ⟨wo.heap.size, 0, none⟩ (.int .i64 (fitR f g (nth cs k).st (nth cs k).done).1)).setCell ⟨wo.heap.size, 1, none⟩ (.slice B5 n5 d5)) := (hbw.setCell (p := ⟨wo.heap.size, 0, none⟩) (Nat.le_refl _) _).setCell (p := ⟨wo.heap.size, 1, none⟩) (Nat.le_refl _) _
        have hrow := row_mono (row_set (o := 1) (u := .slice B5 n5 d5) (row_set (o := 0) (u := .int .i64 (fitR f g (nth cs k).st (nth cs k).done).1) ho5 hz5 (by decide)) (set20 hz5) (by decide)) hbs
        have hpb : wo.heap.size ≤ wo.heap.size := Nat.le_refl _
        generalize (w5.setCell ⟨wo.heap.size, 0, none⟩ (.int .i64 (fitR f g (nth cs k).st (nth cs k).done).1)).setCell ⟨wo.heap.size, 1, none⟩ (.slice B5 n5 d5) = w6 at *
        clear hbw hbs
        have HBX := Lib.hid hbox; clear hbox
        have HB6 := Lib.hid hb6; clear hb6
        have hcap := own_capN hrow
        obtain ⟨A8, c8, e8, hss⟩ := own_sstr hrow
        injection e8 with e8 _ e9
        subst e8; subst e9
        have HSS := Lib.hid hss; clear hss hrow
        clear ho5 hb5 HSB
        have HK6 := Lib.hid (HI.out.row.below HB6.out)
        have HN6 := Lib.hid (row_below HI.out.nms HB6.out)
        have HW6 := Lib.hid (HI.out.below.trans (HB6.out.mono HI.out.below.size))
        have hs6 := HB6.out.size
        have hw6 := HW6.out.size
        have D16 := Lib.hid ((HB6.out.cell (p := ⟨b, off + k * 3, none⟩) hblo).trans D1.out)
        have HFL6 := Lib.hid (And.intro ((HB6.out.block _ (heap_lt HFW.out)).trans HFW.out) ((HB6.out.block _ (heap_lt HGW.out)).trans HGW.out))
        cases hfit : fitB f g (nth cs k).st (nth cs k).done
        · have HT1 := Lib.hid (mv_no hkl hfit)
          have HT2 := Lib.hid (mvN_no hkl hfit)
          clear hfit
          generalize fitR f g (nth cs k).st (nth cs k).done = v at *
          have d1 := D16.out
          go_wp2_with (at_builtin; refine app_strW w.heap.size (.slice A2 n2 c2) n2 (mvN f g (cs.take k)) _ (nth cs k).name ?c0 rfl (.tmp 55) (.tmp 61) rfl rfl rfl ?c1 (by omega) ?c2 ?_)
          case c0 => exact HN6.out.alloc _
          case c1 => first | exact heap_new rfl | exact Array.getElem_push_eq
          case c2 => have := HW6.out.size; simp; omega
          intro v8 w8 hrow8 hg8 hat8
          replace hrow8 : w8.ownsRow w.heap.size 9 1 v8 (n2 + 1) ((mvN f g (cs.take k) ++ [(nth cs k).name]).map Value.string) := by rw [List.map_append]; exact hrow8
          have HR8 := Lib.hid hrow8; clear hrow8
          have HB8 := Lib.hid ((HW6.out.alloc HW6.out.size (.cells #[.string (nth cs k).name] 9)).grown hg8 (by have := HW6.out.size; simp; omega) (fun b hb => (HN6.out.lt b hb).1))
          have hat9 : v8.ownBlock = (Value.slice A2 n2 c2).ownBlock ∨ v8.ownBlock = some (w6.alloc (.cells #[.string (nth cs k).name] 9)).heap.size := by simpa using hat8
          have HK8 := Lib.hid ((HK6.out.alloc (.cells #[.string (nth cs k).name] 9)).grown hg8 (fun b hb he => HNE.out b he hb) hat9)
          have HFL8 := Lib.hid (And.intro (grown_blk hg8 (heap_old HFL6.out.1) (fun e => by have := HN6.out.lt _ e; obtain ⟨cur, hcur⟩ := row_blk HN6.out e; rw [HFL6.out.1] at hcur; injection hcur with h1; injection h1 with _ h2; exact absurd h2 (by decide))) (grown_blk hg8 (heap_old HFL6.out.2) (fun e => by obtain ⟨cur, hcur⟩ := row_blk HN6.out e; rw [HFL6.out.2] at hcur; injection hcur with h1; injection h1 with _ h2; exact absurd h2 (by decide))))
          clear hg8 hat8 hat9
          go_wp2_with fail
          go_roundw
          case rel => exact ⟨k + 1, n1, n2 + 1, by omega, by go_num, ⟨by rw [HT1.out]; exact HK8.out, by rw [HT2.out]; exact HR8.out, HB8.out⟩, HFL8.out⟩
          case measure => simp [intOf]; omega
        · have HT1 := Lib.hid (mv_yes hkl hfit)
          have HT2 := Lib.hid (mvN_yes hkl hfit)
          clear hfit
          have HMC : Hid (mvC f g (nth cs k) = ⟨(nth cs k).name, (fitR f g (nth cs k).st (nth cs k).done).1, (fitR f g (nth cs k).st (nth cs k).done).2⟩) := Lib.hid rfl
          generalize fitR f g (nth cs k).st (nth cs k).done = v at *
          have HSC : Hid (∀ w', Below w6.heap.size w6 w' → w'.cell? ⟨b, off + k * 3, none⟩ = some (.string (nth cs k).name) ∧ w'.cell? ⟨wo.heap.size, 0, none⟩ = some (.int .i64 v.1) ∧ w'.cell? ⟨wo.heap.size, 1, none⟩ = some (.slice B5 n5 d5)) := fun w' h =>
            ⟨(h.cell (p := ⟨b, off + k * 3, none⟩) (by show b < w6.heap.size; omega)).trans D16.out, (blk_cl (k := 0) ((h.block _ (heap_lt HBX.out)).trans HBX.out) rfl).1, (blk_cl (k := 1) ((h.block _ (heap_lt HBX.out)).trans HBX.out) rfl).1⟩
          have HKP : Hid (∀ {w5 w7 : World} {o : Obj}, Below w6.heap.size w6 w5 → (w5.alloc o).grownBy w7 (Value.slice A1 n1 c1).ownBlock → (w7.cell? ⟨b, off + k * 3, none⟩ = some (.string (nth cs k).name) ∧ w7.cell? ⟨wo.heap.size, 0, none⟩ = some (.int .i64 v.1) ∧ w7.cell? ⟨wo.heap.size, 1, none⟩ = some (.slice B5 n5 d5))) := fun {w5 w7 o} h hg => by
            have n1' : (Value.slice A1 n1 c1).ownBlock ≠ some b := fun e => by
              have h1 := (KRow.lt HI.out.row.row e).1
              omega
            have n2' : (Value.slice A1 n1 c1).ownBlock ≠ some wo.heap.size := fun e => by
              have h1 := (KRow.lt HI.out.row.row e).2
              omega
            have h5 := h.size
            have e2 := grown_blk hg (heap_old (o := o) ((h.block _ (heap_lt HBX.out)).trans HBX.out)) n2'
            have hblk : w7.heap[b]? = w6.heap[b]? := (hg.block b (by simp; omega) (Ne.symm n1')).trans ((h.alloc h.size o).block b (by omega))
            exact ⟨(World.cell?_of_block (a := ⟨b, off + k * 3, none⟩) hblk).trans D16.out, (blk_cl (k := 0) e2 rfl).1, (blk_cl (k := 1) e2 rfl).1⟩
          go_wp2_with fail
          go_region_held3 (fun w' => w'.cell? ⟨b, off + k * 3, none⟩ = some (.string (nth cs k).name) ∧ w'.cell? ⟨wo.heap.size, 0, none⟩ = some (.int .i64 v.1) ∧ w'.cell? ⟨wo.heap.size, 1, none⟩ = some (.slice B5 n5 d5))
            (first | exact hk7 | exact HSC.out _ (Below.refl _ _).drew | exact HSC.out _ ((Below.refl w6.heap.size w6).drew.alloc (Nat.le_refl _) _) | fail "keep")
            (first
              | (refine case_stepV (o := ⟨some 54, _, _, _, _, _⟩) w.heap.size (Value.slice A2 n2 c2).ownBlock _ n1 (mvL f g (cs.take k)) _ ⟨(nth cs k).name, v.1, v.2⟩ B5 n5 d5 (by exact (HK6.out.below (Below.refl _ _).drew).alloc _) (by exact ((HSS.out.mono hso).below (Below.refl _ _).drew).alloc _) hcap (fun b hb hm he => by (have h1 := (HI.out.nms.lt b he).2; have h2 := (HSS.out.lt hm hb).1; omega)) (by rfl) (.tmp 45) (.tmp 53) (by rfl) (by rfl) (by rfl) (by exact heap_new rfl) (by omega) (by (have h1 := HW6.out.size; simp; omega)) ?_; intro v7 w7 how7 hg7 hat7; have hk7 := HKP.out (Below.refl w6.heap.size w6).drew hg7)
              | fail "no arm")
          have HN7 := Lib.hid (row_grown ((row_below HN6.out (Below.refl w6.heap.size w6).drew).alloc (.cells #[.string (nth cs k).name, .int .i64 v.1, .slice B5 n5 d5] 52)) hg7 (fun b hb => HNE.out b hb))
          have HB6a := HW6.out.drew
          have HB7 := Lib.hid ((HB6a.alloc HB6a.size (.cells #[.string (nth cs k).name, .int .i64 v.1, .slice B5 n5 d5] 52)).grown hg7 (by have := HB6a.size; simp; omega) (fun b hb => (KRow.lt HI.out.row.row hb).1))
          have HK7 := Lib.hid how7
          have HFL7 := Lib.hid (And.intro (grown_blk hg7 (heap_old (w := w6.drew) HFL6.out.1) (HK6.out.row.ne HFL6.out.1 (by decide))) (grown_blk hg7 (heap_old (w := w6.drew) HFL6.out.2) (HK6.out.row.ne HFL6.out.2 (by decide))))
          clear how7 hg7 hat7 hk7 HB6a
          go_wp2_with fail
          go_roundw
          case rel => exact ⟨k + 1, n1 + 1, n2, by omega, by go_num, ⟨by rw [HT1.out, HMC.out]; exact HK7.out, by rw [HT2.out]; exact HN7.out, HB7.out⟩, HFL7.out⟩
          case measure => simp [intOf]; omega
    · obtain rfl : k = m := by omega
      have hkm : cs.take k = cs := by rw [← HL.out]; exact List.take_length
      go_wp2_with fail
      have hrc : RCase wo w.heap.size A1 n1 (mvL f g (cs.take k)) := by
        obtain ⟨A3, c3, e3, h⟩ := HI.out.row.row.hat
        cases e3
        exact h
      have hss : SStr wo w.heap.size A2 n2 (mvN f g (cs.take k)) := by
        obtain ⟨A3, c3, e3, h⟩ := own_sstr HI.out.nms
        cases e3
        exact h
      rw [hkm] at hrc hss
      exact bodyPost_ret (v := .tuple #[.slice A1 n1 c1, .slice A2 n2 c2, .bool true]) (by simp [results, Try.results16, go_sem]) rfl ⟨_, _, _, _, _, _, by rw [HP.out], by rw [HE1.out]; exact hrc, HI.out.row.row.cap3, by rw [HE2.out]; exact hss.hat, HI.out.below⟩
end Go.Proofs.Ytakeijgoonagcaa
