/- Levels: both counts. -/
import Derived.Test.YtfcbpgpmafmkhaaF6
import Derived.Test.YtfcbpgpmafmkhaaF8
import Derived.Test.YtfcbpgpmafmkhaaS1
import Derived.Test.YtfcbpgpmafmkhaaPure3
namespace Go.Proofs.Ytfcbpgpmafmkhaa
open Go.RowKit

/-- Rows of lists of strings: their lengths alone. -/
def lenE : Elem Nat := { size := 1, rep := fun w _ _ b off x => ∃ A c, Cl w b off (.slice A x c), keep := fun ⟨A, c, h⟩ hs h1 h2 => ⟨A, c, h.same hs h1 h2⟩, wide := fun h _ _ => h }
abbrev RLen := RL lenE
theorem RLen.at_ {w : World} {lo n : Nat} {A : Option Addr} {xs : List Nat} {k : Nat} (h : RLen w lo A n xs) (hk : k < n) :
    ∃ b off, A = some ⟨b, off, none⟩ ∧ (lo ≤ b ∧ b < w.heap.size) ∧ ∀ j, j < n → ∃ A' c', w.cell? ⟨b, off + j, none⟩ = some (.slice A' (nth xs j) c') := by
  obtain ⟨b, off, e, h1, h2, hc⟩ := h.2 (by omega)
  refine ⟨b, off, e, ⟨h1, h2⟩, fun j hj => ?_⟩
  obtain ⟨A', c', h3⟩ := hc j hj
  exact ⟨A', c', by have := h3.1; simpa [lenE] using this⟩

def isSl (x : Nat) (v : Value) : Prop := ∃ A c, v = .slice A x c
/-- A row of the call's own of lists. -/
def LRow (w : World) (base : Nat) (v : Value) (n : Nat) (xs : List Nat) : Prop :=
  ∃ vs : List Value, xs.length = n ∧ w.ownsRow base 42 1 v n vs ∧ ∀ j, j < n → isSl (nth xs j) (nth vs j)
theorem LRow.hat {w : World} {base n : Nat} {v : Value} {xs : List Nat} (h : LRow w base v n xs) : ∃ A c, v = .slice A n c ∧ RLen w base A n xs := by
  obtain ⟨vs, hl, h1, h2⟩ := h
  obtain ⟨A, c, hv, hf⟩ := own_form h1
  have hvl : vs.length = n := by have := h1.1; omega
  refine ⟨A, c, hv, hl, fun hn => ?_⟩
  obtain ⟨b, e1, b1, b2, hc⟩ := hf hn
  refine ⟨b, 0, e1, b1, b2, fun k hk => ?_⟩
  obtain ⟨A', c', e⟩ := h2 k hk
  refine ⟨A', c', ?_⟩
  have := hc k (nth vs k) (by rw [nth_eq (by omega)]; exact List.getElem?_eq_getElem (by omega))
  rw [e] at this
  simpa [lenE] using this

theorem info_strs : (Try.prog.info? 42).map (fun i => (i.zero, i.size, i.bytes)) = some (some (.slice none 0 0), 1, 24) := by kernel_rfl
theorem app_lrow {w : World} {ops : Array Oper} {rest : List Oper} {o : Oper} {a : Act} {Q : Exit → Act → World → Prop} (base : Nat) (v : Value) (n : Nat) (xs : List Nat) (b : Nat) (A : Option Addr) (m c : Nat) (hown : LRow w base v n xs)
    (hgd : o.guard = none) (l x : Operand) (ho : o.op = .call { callee := .builtin .append, args := #[l, x], argTypes := #[70, 70] })
    (hs : a.eval l = v) (hx : a.eval x = .slice (some ⟨b, 0, none⟩) 1 1) (hb : w.heap[b]? = some (.cells #[.slice A m c] 42 (0, 0))) (hn : n ≤ 1048576) (hbase : base ≤ w.heap.size)
    (h : ∀ v' w', LRow w' base v' (n + 1) (xs ++ [m]) → w.grownBy w' v.ownBlock → (v'.ownBlock = v.ownBlock ∨ v'.ownBlock = some w.heap.size) → wpList Try.prog ops Q rest (a.put o.dst v') w') : wpList Try.prog ops Q (o :: rest) a w := by
  obtain ⟨vs, hl, h1, h2⟩ := hown
  have hvl : vs.length = n := by have := h1.1; omega
  refine wpList_plain hgd fun _ hK => wapp 70 42 1 24 _ Try.underlying70 info_strs rfl (by omega) (by omega) base v n _ [.slice A m c] b h1 l x ho hs hx hb rfl ?_ hn hbase fun v' w' h3 h4 h5 => hK _ _ (h v' w' ?_ h4 h5)
  · intro u hu; simp at hu; subst hu; rfl
  · refine ⟨vs ++ [.slice A m c], by simp; omega, h3, fun j hj => ?_⟩
    rcases Nat.lt_or_ge j n with h6 | h6
    · have e1 : nth (xs ++ [m]) j = nth xs j := by rw [nth_eq (by simp; omega), nth_eq (by omega), List.getElem_append_left (by omega)]
      have e2 : nth (vs ++ [.slice A m c]) j = nth vs j := by rw [nth_eq (by simp; omega), nth_eq (by omega), List.getElem_append_left (by omega)]
      rw [e1, e2]; exact h2 j h6
    · have h7 : j = n := by omega
      subst h7
      have e1 : nth (xs ++ [m]) j = m := by rw [nth_eq (by simp; omega)]; simp [← hl]
      have e2 : nth (vs ++ [Value.slice A m c]) j = .slice A m c := by rw [nth_eq (by simp; omega)]; simp [← hvl]
      rw [e1, e2]; exact ⟨A, c, rfl⟩

/-- 'done = append(done, names...)'. -/
theorem appsR {w : World} {ops : Array Oper} {rest : List Oper} {o : Oper} {a : Act} {Q : Exit → Act → World → Prop} (base : Nat) (v : Value) (n : Nat) (cs : List Str) (lo hi : Nat) (A : Option Addr) (m c : Nat) (ys : List Str) (hown : w.ownsRow base 9 1 v n (cs.map Value.string))
    (hr : RH strE w lo hi A m ys) (hhi : hi ≤ w.heap.size) (hgd : o.guard = none) (l x : Operand) (ho : o.op = .call { callee := .builtin .append, args := #[l, x], argTypes := #[42, 42] })
    (hs : a.eval l = v) (hx : a.eval x = .slice A m c) (hn : n + m ≤ 4194304) (hbase : base ≤ w.heap.size)
    (h : ∀ v' w', w'.ownsRow base 9 1 v' (n + m) ((cs ++ ys).map Value.string) → w.grownBy w' v.ownBlock → wpList Try.prog ops Q rest (a.put o.dst v') w') : wpList Try.prog ops Q (o :: rest) a w :=
  wpList_plain hgd fun _ hK => wappl 42 9 1 16 _ Try.underlying42 info_str rfl (by omega) (by omega) base v n _ (ys.map Value.string) A m c hown l x ho hs hx (by rw [List.length_map, hr.1]; omega) (news_str (hr.up hhi)) (by simp [Value.oneCell']) hn hbase
    fun v' w' h2 h3 _ => hK _ _ (h v' w' (by rw [List.map_append]; exact h2) h3)

theorem row_apart {w w' : World} {base base' : Nat} {e e' : TypeId} {size size' : Nat} {v v' : Value} {n n' : Nat} {cs cs' : List Value} (h : w.ownsRow base e size v n cs) (h' : w.ownsRow base' e' size' v' n' cs') (hne : e ≠ e') (hg : w.grownBy w' v'.ownBlock) : w'.ownsRow base e size v n cs := by
  refine h.kept hg ?_
  rcases Option.eq_none_or_eq_some v.ownBlock with hn | ⟨k, hk⟩
  · exact .inl hn
  · right
    rw [hk]
    intro ek
    rcases h.2 with ⟨rfl, _⟩ | ⟨g, cap, cur, rfl, _, hb, _⟩
    · cases hk
    · have e1 : g = k := by simpa [Value.ownBlock] using hk
      subst e1
      exact row_ne h' hb (Ne.symm hne) ek.symm
def lvLens (ss : List Step) (k : Nat) : List Nat := (List.range k).map (lvLen ss)
theorem lvLens_len (ss : List Step) (k : Nat) : (lvLens ss k).length = k := by simp [lvLens]
theorem lvLens_succ (ss : List Step) (k : Nat) : lvLens ss (k + 1) = lvLens ss k ++ [lvLen ss k] := by simp [lvLens, List.range_succ]
theorem lvLens_at {ss : List Step} {k j : Nat} (h : j < k) : nth (lvLens ss k) j = lvLen ss j := by rw [nth_eq (by rw [lvLens_len]; exact h)]; simp [lvLens]

set_option maxRecDepth 100000 in
theorem levels_any (A : Option Addr) (n c : Nat) (f : Flow) (lo : Nat) (w : World) (hr : RStep w lo A n f.steps) (hok : okSteps f.steps) (hf : flowB f = true) :
    Calls Try.prog 57 #[.agg #[.int .i64 f.ver, .slice A n c]] w fun e w' => ∃ A' d c', e = .returned (.slice A' d c') ∧ Lv f.steps d ∧ RLen w' w.heap.size A' d (lvLens f.steps d) ∧ Below w.heap.size w w' := by
  have HN := Lib.hid (flow_nodup hf)
  have HC := Lib.hid ((flowB_iff.1 hf).2.2.2)
  have hn8 : n ≤ 8 := by have := (flowB_iff.1 hf).2.2.1.2; rw [hr.1] at this; exact this
  clear hf
  have HO := Lib.hid hok; clear hok
  have HR := Lib.hid hr; clear hr
  have HLn := Lib.hid (show f.steps.length = n from HR.out.1)
  go_enter Try.func57, Try.ntmps57
  go_wp2_with fail
  go_loopw [3, 4, 5] (fun v d _ wr => ∃ k m : Nat, (∀ j, j < k → (lvDone f.steps j).length < n) ∧ m = (lvDone f.steps k).length ∧ LRow wr w.heap.size v k (lvLens f.steps k) ∧ wr.ownsRow w.heap.size 9 1 d m ((lvDone f.steps k).map Value.string) ∧ wr.heap[w.heap.size]? = some (.cells #[.int .i64 f.ver, .slice A n c] 29 (0, 0)) ∧ Below w.heap.size w wr) (fun _ d _ _ => n - lenV d)
  case atStart => exact ⟨0, 0, fa_zero, rfl, ⟨[], rfl, World.ownsRow_nil _ _ _ _, fa_zero⟩, World.ownsRow_nil _ _ _ _, heap_new rfl, (Below.refl _ _).alloc (Nat.le_refl _) _⟩
  case round =>
    obtain ⟨k, m, hgo, hmk, hl, hd, hx, hb⟩ := hrel
    have HG := Lib.hid hgo; clear hgo
    have HM := Lib.hid hmk; clear hmk
    have HL := Lib.hid hl; clear hl
    have HD := Lib.hid hd; clear hd
    have HX := Lib.hid hx; clear hx
    have HB := Lib.hid hb; clear hb
    obtain ⟨Al, cl, rfl, hlh⟩ := HL.out.hat
    obtain ⟨Ad, cd, rfl, hdh⟩ := own_str HD.out
    have HDH := Lib.hid hdh; clear hdh
    have HLH := Lib.hid hlh; clear hlh
    have hmn : m ≤ n := by have := (lvDone_done HN.out k).len; rw [HLn.out, ← HM.out] at this; exact this
    have hkn : k ≤ n := by
      have := Lv.le (ss := f.steps) (d := k) HC.out (fun j hj => by rw [HLn.out]; exact HG.out j hj)
      rw [HLn.out] at this; exact this
    have b1 := (blk_cl (k := 0) HX.out rfl).1
    have b2 := (blk_cl (k := 1) HX.out rfl).1
    by_cases hlt : m < n
    · go_wp2_with fail
      refine (ready_any _ _ _ _ _ _ _ f.steps (lvDone f.steps k) _ _ _ (HR.out.below HB.out) HO.out HDH.out (by omega)).mono ?_
      rintro e w2 ⟨A2, n2, c2, rfl, hr2, hb2⟩
      have HR2 := Lib.hid hr2; clear hr2
      have HN2 := Lib.hid (show lvLen f.steps k = n2 from HR2.out.1)
      have HD2 := Lib.hid (row_below HD.out hb2)
      have HL2 : Hid (LRow w2 w.heap.size (.slice Al k cl) k (lvLens f.steps k)) := by
        obtain ⟨vs, h1, h2, h3⟩ := HL.out
        exact ⟨vs, h1, row_below h2 hb2, h3⟩
      have hsz := HB.out.size
      have hsz2 := hb2.size
      have HX2 := Lib.hid ((hb2.block _ (heap_lt HX.out)).trans HX.out)
      have HB2 := Lib.hid (HB.out.trans (hb2.mono HB.out.size))
      have hn2 : m + n2 ≤ n := by
        have := (lvDone_done HN.out (k + 1)).len
        rw [lvDone_len, ← HM.out, HN2.out, HLn.out] at this
        exact this
      clear hb2 b1 b2
      go_wp2_with (first
        | (at_builtin; refine app_lrow (o := ⟨some 18, _, _, _, _, _⟩) w.heap.size _ k (lvLens f.steps k) _ A2 n2 c2 ?r0 rfl (.tmp 15) (.tmp 17) rfl rfl rfl ?r1 (by omega) ?r2 ?_)
        | fail "no arm")
      case r0 =>
        obtain ⟨vs, h1, h2, h3⟩ := HL2.out
        exact ⟨vs, h1, h2.alloc _, h3⟩
      case r1 => exact heap_new rfl
      case r2 => simp; omega
      intro v3 w3 hl3 hg3 hat3
      obtain ⟨A3, c3, rfl, _⟩ := hl3.hat
      have HL3 := Lib.hid hl3; clear hl3
      have HD3 : Hid (w3.ownsRow w.heap.size 9 1 (.slice Ad m cd) m ((lvDone f.steps k).map Value.string)) := by
        obtain ⟨vs, h1, h2, h3⟩ := HL2.out
        exact row_apart (HD2.out.alloc _) (h2.alloc _) (by decide) hg3
      have HR3 : Hid (RH strE w3 wr.heap.size w2.heap.size A2 n2 (rdyL f.steps (lvDone f.steps k))) :=
        (HR2.out.low.same (w' := w3) ⟨fun i h1 h2 => by
          refine (hg3.block i (by simp; omega) ?_).trans (Below.heap_alloc w2 _ i h2)
          intro e
          obtain ⟨vs, h3, h4, h5⟩ := HL.out
          have := h4.lt i e.symm
          omega⟩)
      have hs3 := hg3.size
      rw [show (w2.alloc (.cells #[.slice A2 n2 c2] 42)).heap.size = w2.heap.size + 1 by simp] at hs3
      have HX3 : Hid (w3.heap[w.heap.size]? = some (.cells #[.int .i64 f.ver, .slice A n c] 29 (0, 0))) := by
        obtain ⟨vs, h1, h2, h3⟩ := HL2.out
        exact grown_blk hg3 (heap_old HX2.out) (row_ne h2 HX2.out (by decide))
      have HB3 : Hid (Below w.heap.size w w3) := by
        obtain ⟨vs, h1, h2, h3⟩ := HL2.out
        exact (HB2.out.alloc HB2.out.size _).grown hg3 (by simp; omega) (fun i hi => (h2.lt i hi).1)
      clear hg3 hat3
      go_wp2_with (first
        | (at_builtin; refine appsR (o := ⟨some 21, _, _, _, _, _⟩) w.heap.size _ m (lvDone f.steps k) _ _ A2 n2 c2 (rdyL f.steps (lvDone f.steps k)) HD3.out HR3.out ?r3 rfl (.tmp 19) (.tmp 20) rfl rfl rfl (by omega) ?r4 ?_)
        | fail "no arm")
      case r3 => omega
      case r4 => omega
      intro v4 w4 hd4 hg4
      rw [← List.map_append] at hd4
      obtain ⟨A4, c4, rfl, _⟩ := own_str hd4
      have HL4 : Hid (LRow w4 w.heap.size (.slice A3 (k + 1) c3) (k + 1) (lvLens f.steps k ++ [n2])) := by
        obtain ⟨vs, h1, h2, h3⟩ := HL3.out
        exact ⟨vs, h1, row_apart h2 HD3.out (by decide) hg4, h3⟩
      have HX4 := Lib.hid (grown_blk hg4 HX3.out (row_ne HD3.out HX3.out (by decide)))
      have HB4 := Lib.hid (HB3.out.grown hg4 HB3.out.size (fun i hi => (HD3.out.lt i hi).1))
      have HD4 := Lib.hid hd4; clear hd4
      clear hg4
      have HP := Lib.hid (lvLen_pos (ss := f.steps) (k := k) HC.out (by rw [HLn.out, ← HM.out]; exact hlt))
      have hp : 1 ≤ n2 := by have := HP.out; rw [HN2.out] at this; exact this
      go_wp2_with fail
      go_roundw
      case rel =>
        refine ⟨k + 1, m + n2, fa_succ HG.out (by rw [← HM.out]; exact hlt), by rw [lvDone_len, ← HM.out, HN2.out], by rw [lvLens_succ, HN2.out]; exact HL4.out, HD4.out, HX4.out, HB4.out⟩
      case measure => simp [lenV]; omega
    · go_wp2_with fail
      go_ret
      exact ⟨_, _, _, rfl, ⟨by rw [HLn.out, ← HM.out]; omega, fun j hj => by rw [HLn.out]; exact HG.out j hj⟩, HLH.out, HB.out⟩
end Go.Proofs.Ytfcbpgpmafmkhaa
