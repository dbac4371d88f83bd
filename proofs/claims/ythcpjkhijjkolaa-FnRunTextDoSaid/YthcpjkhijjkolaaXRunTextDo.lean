/- FnRunTextDo returns true at every input, and leaves its arguments as they were. No condition. -/
import Derived.Test.YthcpjkhijjkolaaShelf
import Derived.Lib.Join
import Derived.Deep.RegionHeld3
import Derived.Test.YthcpjkhijjkolaaZA
import Derived.Test.YthcpjkhijjkolaaZC
import Derived.Test.YthcpjkhijjkolaaZB
import Derived.Test.YthcpjkhijjkolaaZE
import Derived.Test.YthcpjkhijjkolaaZD

/- Texts of steps: both. -/
namespace Go.Proofs.Ythcpjkhijjkolaa
open Go.RowKit

/-- The first k names with commas between them. -/
def jnS (xs : List Str) : Nat → Str
  | 0 => ⟨#[]⟩
  | k + 1 => (if 0 < k then jnS xs k ++ ⟨#[44]⟩ else jnS xs k) ++ nth xs k
def namesS (xs : List Str) : Str := if xs.length = 0 then ⟨#[45]⟩ else jnS xs xs.length
def stepS (s : Step) : Str := if s.undo then s.name ++ ⟨#[58]⟩ ++ namesS s.after else (s.name ++ ⟨#[58]⟩ ++ namesS s.after) ++ ⟨#[33]⟩
def textS (s : Step) : Str := if stepB s then stepS s else ⟨#[]⟩

theorem bl_app (a b : Str) : (a ++ b).data.toList = a.data.toList ++ b.data.toList := by simp
theorem bsz_app (a b : Str) : (a ++ b).size = a.size + b.size := by simp
theorem join_snoc (l : List (List UInt8)) (z sep : List UInt8) (h : l ≠ []) : Lib.join (l ++ [z]) sep = Lib.join l sep ++ sep ++ z := by
  cases l with
  | nil => exact absurd rfl h
  | cons x r =>
    rw [List.cons_append, Lib.join_cons, Lib.join_cons]
    simp [Lib.joinTail]
theorem jnS_list {xs : List Str} : ∀ k, k < xs.length → (jnS xs (k + 1)).data.toList = Lib.join ((xs.take (k + 1)).map (·.data.toList)) [44]
  | 0, h => by
    rw [take_nth h]
    show (jnS xs 0 ++ nth xs 0).data.toList = _
    rw [bl_app]
    simp [Lib.join_one, jnS]
  | k + 1, h => by
    rw [take_nth h, List.map_append]
    show ((if 0 < k + 1 then jnS xs (k + 1) ++ ⟨#[44]⟩ else jnS xs (k + 1)) ++ nth xs (k + 1)).data.toList = _
    rw [if_pos (by omega), bl_app, bl_app, jnS_list k (by omega)]
    have hne : (xs.take (k + 1)).map (·.data.toList) ≠ [] := by
      intro e
      have h2 : ((xs.take (k + 1)).map (·.data.toList)).length = 0 := by rw [e]; rfl
      rw [List.length_map, List.length_take] at h2
      omega
    show _ = Lib.join ((xs.take (k + 1)).map (·.data.toList) ++ [(nth xs (k + 1)).data.toList]) [44]
    rw [join_snoc _ _ _ hne]
theorem jnS_join {xs : List Str} (h : 0 < xs.length) : (⟨(Lib.join (xs.map (·.data.toList)) [44]).toArray⟩ : Str) = jnS xs xs.length := by
  have := jnS_list (xs := xs) (xs.length - 1) (by omega)
  rw [show xs.length - 1 + 1 = xs.length by omega, List.take_length] at this
  rw [← this]
theorem jnS_size {xs : List Str} {m : Nat} (h : ∀ j, j < xs.length → (nth xs j).size ≤ m) : ∀ k, k ≤ xs.length → (jnS xs k).size ≤ k * (m + 1)
  | 0, _ => Nat.zero_le _
  | k + 1, hk => by
    have h1 := jnS_size h k (by omega)
    have h2 := h k (by omega)
    show ((if 0 < k then jnS xs k ++ ⟨#[44]⟩ else jnS xs k) ++ nth xs k).size ≤ _
    rw [bsz_app, Nat.succ_mul]
    have h3 : (⟨#[44]⟩ : Str).size = 1 := rfl
    split
    · rw [bsz_app]; omega
    · omega

set_option maxRecDepth 100000 in
theorem namesTextI_any (A : Option Addr) (n c : Nat) (xs : List Str) (lo : Nat) (w : World) (hr : RStr w lo A n xs) (hc : n ≤ c) (hn : n ≤ 1000) (hs : ∀ j, j < n → (nth xs j).size ≤ 1000) :
    Calls Try.prog 65 #[.slice A n c] w fun e w' => e = .returned (.string (namesS xs)) ∧ Below w.heap.size w w' := by
  have HR := Lib.hid hr; clear hr
  have HS := Lib.hid hs; clear hs
  by_cases h0 : n < 1
  · have hz : ((n : Int) == 0) = true := by rw [beq_iff_eq]; omega
    have HE := Lib.hid (show namesS xs = ⟨#[45]⟩ by unfold namesS; rw [if_pos (by rw [HR.out.1]; omega)])
    go_enter Try.func65, Try.ntmps65
    go_wp2_with fail
    go_ret
    exact ⟨ret_s HE.out.symm, Below.refl _ _⟩
  · have hz : ((n : Int) == 0) = false := by rw [beq_eq_false_iff_ne]; omega
    obtain ⟨b, off, rfl, ⟨_, hb⟩, hcs⟩ := RStr.at_ HR.out (k := 0) (by omega)
    have hl := HR.out.1
    subst hl
    have HE := Lib.hid (show namesS xs = jnS xs xs.length by unfold namesS; rw [if_neg (by omega)])
    have HJ := Lib.hid (jnS_join (xs := xs) (by omega))
    have HCS : Hid (∀ (j : Nat) x, xs[j]? = some x → w.cell? ⟨b, off + j, none⟩ = some (.string x)) := fun j x hx => by
      obtain ⟨hj, e⟩ := List.getElem?_eq_some_iff.1 hx
      have := (hcs j hj).1
      rw [nth_eq hj, e] at this
      exact this
    clear hcs
    have HLEN : Hid ((Lib.join (xs.map (·.data.toList)) [44]).length ≤ 140737488355328) := by
      have h1 := jnS_size (xs := xs) (m := 1000) HS.out xs.length (Nat.le_refl _)
      rw [← HJ.out] at h1
      have h2 : xs.length * 1001 ≤ 1000 * 1001 := Nat.mul_le_mul_right _ hn
      have h3 : (⟨(Lib.join (xs.map (·.data.toList)) [44]).toArray⟩ : Str).size = (Lib.join (xs.map (·.data.toList)) [44]).length := by simp [ByteArray.size]
      rw [h3] at h1
      show _ ≤ 140737488355328
      omega
    go_enter Try.func65, Try.ntmps65
    go_wp2_with fail
    refine (Try.strings_Join b off c xs ⟨#[44]⟩ _ HCS.out hb (by omega) hc HLEN.out).mono ?_
    rintro e w1 ⟨rfl, hb1⟩
    have HB1 := Lib.hid hb1; clear hb1
    rw [show (Lib.join (xs.map (·.data.toList)) (⟨#[44]⟩ : ByteArray).data.toList) = Lib.join (xs.map (·.data.toList)) [44] from rfl, HJ.out]
    go_wp2_with fail
    go_ret
    exact ⟨ret_s HE.out.symm, HB1.out⟩

set_option maxRecDepth 100000 in
theorem l41Names_any (A : Option Addr) (n c : Nat) (xs : List Str) (lo : Nat) (w : World) (hr : RStr w lo A n xs) (hn : n ≤ 1000) (hs : ∀ j, j < n → (nth xs j).size ≤ 1000) :
    Calls Try.prog 61 #[.slice A n c] w fun e w' => e = .returned (.string (namesS xs)) ∧ w = w' := by
  have HR := Lib.hid hr; clear hr
  have HS := Lib.hid hs; clear hs
  by_cases h0 : n < 1
  · have hz : ((n : Int) == 0) = true := by rw [beq_iff_eq]; omega
    have HE := Lib.hid (show namesS xs = ⟨#[45]⟩ by unfold namesS; rw [if_pos (by rw [HR.out.1]; omega)])
    go_enter Try.func61, Try.ntmps61
    go_wp2_with fail
    go_ret
    exact ⟨ret_s HE.out.symm, rfl⟩
  · have hz : ((n : Int) == 0) = false := by rw [beq_eq_false_iff_ne]; omega
    have HE := Lib.hid (show namesS xs = jnS xs n by unfold namesS; rw [if_neg (by rw [HR.out.1]; omega), HR.out.1])
    go_enter Try.func61, Try.ntmps61
    go_wp2_with fail
    go_loop [3, 4] (fun o i => ∃ k : Nat, k ≤ n ∧ i = .int .i64 k ∧ o = .string (jnS xs k)) (fun _ i => n - (intOf i).toNat)
    case atStart => exact ⟨0, Nat.zero_le _, rfl, rfl⟩
    case round =>
      obtain ⟨k, hk, rfl, rfl⟩ := hrel
      by_cases hlt : k < n
      · obtain ⟨b, off, rfl, _, hcs⟩ := RStr.at_ HR.out hlt
        have c1 := (hcs k hlt).1
        clear hcs
        have q1 : (jnS xs k).size ≤ 1001000 := by
          have h1 := jnS_size (xs := xs) (m := 1000) (fun j hj => HS.out j (by rw [← HR.out.1]; exact hj)) k (by rw [HR.out.1]; omega)
          have h2 : k * 1001 ≤ 1000 * 1001 := Nat.mul_le_mul_right _ (by omega)
          omega
        have q2 := HS.out k hlt
        have HJ := Lib.hid (show jnS xs (k + 1) = (if 0 < k then jnS xs k ++ ⟨#[44]⟩ else jnS xs k) ++ nth xs k from rfl)
        by_cases hk0 : 0 < k
        · have hki : decide ((0 : Int) < (k : Int)) = true := by simp; omega
          have hkn : decide (0 < k) = true := by simp; omega
          go_wp2_with fail
          go_round
          case rel => exact ⟨k + 1, by omega, by go_num, by rw [HJ.out, if_pos hk0]⟩
          case measure => simp [intOf]; omega
        · have hki : decide ((0 : Int) < (k : Int)) = false := by simp; omega
          have hkn : decide (0 < k) = false := by simp; omega
          go_wp2_with fail
          go_round
          case rel => exact ⟨k + 1, by omega, by go_num, by rw [HJ.out, if_neg hk0]⟩
          case measure => simp [intOf]; omega
      · obtain rfl : k = n := by omega
        go_wp2_with fail
        go_ret
        exact ⟨ret_s HE.out.symm, rfl⟩

theorem namesS_size {xs : List Str} (h4 : xs.length ≤ 4) (h : ∀ j, j < xs.length → nameB (nth xs j) = true) : (namesS xs).size ≤ 24 := by
  unfold namesS
  split
  · show 1 ≤ 24; omega
  · have := jnS_size (xs := xs) (m := 5) (fun j hj => by
      have := h j hj
      unfold nameB at this
      simp only [Bool.and_eq_true, decide_eq_true_eq] at this
      omega) xs.length (Nat.le_refl _)
    have h2 : xs.length * (5 + 1) ≤ 4 * 6 := Nat.mul_le_mul_right _ h4
    omega
theorem nameB_size {s : Str} (h : nameB s = true) : 1 ≤ s.size ∧ s.size ≤ 5 := by
  unfold nameB at h
  simp only [Bool.and_eq_true, decide_eq_true_eq] at h
  omega
theorem stepB_sizes {s : Step} (h : stepB s = true) : s.after.length ≤ 4 ∧ (1 ≤ s.name.size ∧ s.name.size ≤ 5) ∧ ∀ j, j < s.after.length → nameB (nth s.after j) = true := by
  unfold stepB at h
  simp only [Bool.and_eq_true, decide_eq_true_eq] at h
  refine ⟨h.2, nameB_size h.1.1.2, fun j hj => ?_⟩
  have := allN_iff.1 h.1.1.1 j hj
  unfold ascAt at this
  simp only [Bool.and_eq_true] at this
  exact this.1

end Go.Proofs.Ythcpjkhijjkolaa

/- Texts of runs: both. -/
namespace Go.Proofs.Ythcpjkhijjkolaa
open Go.RowKit

def stateS (st : Int) : Str := if st = 0 then ⟨#[103, 111, 101, 115]⟩ else if st = 1 then ⟨#[98, 97, 99, 107]⟩ else if st = 2 then ⟨#[101, 110, 100, 101, 100]⟩ else ⟨#[117, 110, 100, 111, 110, 101]⟩
def rtS (st : Int) (done : List Str) : Str := stateS st ++ ⟨#[32]⟩ ++ namesS done
def rtT (f : Flow) (st : Int) (done : List Str) : Str := if runB f st done = true then rtS st done else ⟨#[]⟩
theorem rtT_yes {f : Flow} {st : Int} {done : List Str} (h : runB f st done = true) : rtT f st done = rtS st done := by unfold rtT; rw [if_pos h]
theorem rtT_no {f : Flow} {st : Int} {done : List Str} (h : runB f st done = false) : rtT f st done = ⟨#[]⟩ := by unfold rtT; rw [if_neg (by rw [h]; simp)]

theorem run_sizes {f : Flow} {st : Int} {done : List Str} (h : runB f st done = true) : done.length ≤ 8 ∧ ∀ j, j < done.length → nameB (nth done j) = true := by
  have ho := run_ord h
  have hf := flowB_iff.1 (run_flow h)
  refine ⟨Nat.le_trans (ord_len ho) hf.2.2.1.2, fun j hj => ?_⟩
  obtain ⟨i, hi, he⟩ := nth_of_mem (hasB_true.1 (ord_all ho j hj))
  rw [namesOf_len] at hi
  rw [namesOf_at hi] at he
  have h1 := hf.1 i hi
  simp only [stepAt, stepB, Bool.and_eq_true] at h1
  rw [← he]
  exact h1.1.1.1.1.2
theorem namesS_size8 {xs : List Str} (h8 : xs.length ≤ 8) (h : ∀ j, j < xs.length → nameB (nth xs j) = true) : (namesS xs).size ≤ 48 := by
  unfold namesS
  split
  · show 1 ≤ 48; omega
  · have := jnS_size (xs := xs) (m := 5) (fun j hj => (nameB_size (h j hj)).2) xs.length (Nat.le_refl _)
    have h2 : xs.length * (5 + 1) ≤ 8 * 6 := Nat.mul_le_mul_right _ h8
    omega
theorem stateS_size (st : Int) : (stateS st).size ≤ 6 := by
  unfold stateS
  repeat' split
  all_goals decide

theorem Below.al_ {w w' : World} (h : Below w.heap.size w w') (o : Obj) : Below w.heap.size w (w'.alloc o) := h.alloc h.size o

set_option maxRecDepth 100000 in
theorem l41State_any (st : Int) (w : World) (h0 : 0 ≤ st) (h1 : st ≤ 3) :
    Calls Try.prog 60 #[.int .i64 st] w fun e w' => e = .returned (.string (stateS st)) ∧ w = w' := by
  obtain ⟨s, hs, rfl⟩ : ∃ s : Nat, s < 4 ∧ st = (s : Int) := ⟨st.toNat, by omega, by omega⟩
  match s, hs with
  | 0, _ =>
    go_enter Try.func60, Try.ntmps60
    go_wp2_with fail
    go_ret
    exact ⟨rfl, rfl⟩
  | 1, _ =>
    go_enter Try.func60, Try.ntmps60
    go_wp2_with fail
    go_ret
    exact ⟨rfl, rfl⟩
  | 2, _ =>
    go_enter Try.func60, Try.ntmps60
    go_wp2_with fail
    go_ret
    exact ⟨rfl, rfl⟩
  | 3, _ =>
    go_enter Try.func60, Try.ntmps60
    go_wp2_with fail
    go_ret
    exact ⟨rfl, rfl⟩

set_option maxRecDepth 100000 in
set_option maxHeartbeats 1000000 in
theorem runTextS_any (A B : Option Addr) (n c m d : Nat) (f : Flow) (st : Int) (done : List Str) (lo lo' : Nat) (w : World) (hr : RStep w lo A n f.steps) (hok : okSteps f.steps) (hd : RStr w lo' B m done) (hm : m ≤ 1048576) (hmd : m ≤ d) :
    Calls Try.prog 16 #[.agg #[.int .i64 f.ver, .slice A n c], .agg #[.int .i64 st, .slice B m d]] w fun e w' => e = .returned (.string (rtT f st done)) ∧ Below w.heap.size w w' := by
  have HO := Lib.hid hok; clear hok
  have HX0 := Lib.hid (heap_old (o := .cells #[.int .i64 st, .slice B m d] 35) (heap_new (w := w) (o := .cells #[.int .i64 f.ver, .slice A n c] 33) rfl))
  have HY0 := Lib.hid (heap_new (w := w.alloc (.cells #[.int .i64 f.ver, .slice A n c] 33)) (b := w.heap.size + 1) (o := .cells #[.int .i64 st, .slice B m d] 35) (by simp))
  have HB0 := Lib.hid (((Below.refl w.heap.size w).alloc (Nat.le_refl _) (.cells #[.int .i64 f.ver, .slice A n c] 33)).alloc (by simp) (.cells #[.int .i64 st, .slice B m d] 35))
  have HR := Lib.hid ((hr.alloc (.cells #[.int .i64 f.ver, .slice A n c] 33)).alloc (.cells #[.int .i64 st, .slice B m d] 35)); clear hr
  have HD := Lib.hid ((hd.alloc (.cells #[.int .i64 f.ver, .slice A n c] 33)).alloc (.cells #[.int .i64 st, .slice B m d] 35)); clear hd
  have HLm := Lib.hid (show done.length = m from HD.out.1)
  go_enter Try.func16, Try.ntmps16
  go_wp2_with fail
  refine (runS_any _ _ _ _ _ _ f st done _ _ _ HR.out HO.out HD.out hm hmd).mono ?_
  rintro e w1 ⟨rfl, hb⟩
  have HY1 := Lib.hid ((hb.block _ (heap_lt HY0.out)).trans HY0.out)
  have HB1 := Lib.hid (HB0.out.trans (hb.mono HB0.out.size))
  have HD1 := Lib.hid (HD.out.below hb)
  clear hb HX0 HY0 HR HD HB0
  cases hrb : runB f st done
  · have HE := Lib.hid (rtT_no hrb); clear hrb
    go_wp2_with fail
    go_ret
    exact ⟨ret_s HE.out.symm, HB1.out⟩
  have HE := Lib.hid (rtT_yes hrb)
  obtain ⟨h8, hnm⟩ := run_sizes hrb
  have hst := run_state hrb
  have q1 := namesS_size8 h8 hnm
  have q2 := stateS_size st
  have HNM := Lib.hid hnm; clear hnm hrb
  have hm8 : m ≤ 8 := by rw [← HLm.out]; exact h8
  clear h8
  have hwx := heap_lt HY1.out
  have HNT := Lib.hid (fun x : Bl w1 => l41Names_any B m d done _ x.wd (HD1.out.below x.below) (by omega) (fun j hj => by have := (nameB_size (HNM.out j (by rw [HLm.out]; exact hj))).2; omega))
  have HST := Lib.hid (fun x : Bl w1 => l41State_any st x.wd hst.1 hst.2)
  have X0 : ∀ x : Bl w1, x.wd.cell? ⟨w.heap.size + 1, 0, none⟩ = some (.int .i64 st) := fun x => (blk_cl (k := 0) ((x.below.block _ hwx).trans HY1.out) rfl).1
  have X1 : ∀ x : Bl w1, x.wd.cell? ⟨w.heap.size + 1, 1, none⟩ = some (.slice B m d) := fun x => (blk_cl (k := 1) ((x.below.block _ hwx).trans HY1.out) rfl).1
  go_wp2_with fail
  refine region_bl (by kernel_rfl) (by kernel_rfl) ?_
  repeat (go_big_quiet_step (first | (go_at_call 60; exact q_bl_same (HST.out _)) | (go_at_call 61; exact q_bl_same (HNT.out _))))
  refine wpQuiet_nil ?_
  intro _ hw'
  obtain ⟨x, rfl⟩ := hw'
  have HB2 := Lib.hid (HB1.out.trans (x.below.mono HB1.out.size))
  clear X0 X1 HNT HST
  go_wp2_with fail
  go_ret
  exact ⟨ret_s (by rw [HE.out]; rfl), HB2.out⟩

end Go.Proofs.Ythcpjkhijjkolaa

/- Texts of runs: the last word, in plain words. No program in sight. -/
namespace Go.Proofs.Ythcpjkhijjkolaa

def lastS (done : List Str) : Str := if done.length = 0 then ⟨#[32, 45]⟩ else nth done (done.length - 1)
theorem ext_right (a z : Str) : (a ++ z : Str).extract a.size (a ++ z : Str).size = z :=
  ByteArray.extract_append_eq_right (a := a) (b := z) rfl (by simp)
theorem stateS_pos (st : Int) : 1 ≤ (stateS st).size := by
  unfold stateS
  repeat' split
  all_goals decide
theorem rt_split (st : Int) (done : List Str) : ∃ a : Str, 1 ≤ a.size ∧ rtS st done = a ++ lastS done := by
  have h1 := stateS_pos st
  unfold rtS namesS lastS
  by_cases h : done.length = 0
  · rw [if_pos h, if_pos h]
    refine ⟨stateS st, h1, ?_⟩
    rw [ByteArray.append_assoc]
    rfl
  · rw [if_neg h, if_neg h]
    obtain ⟨k, hk⟩ : ∃ k, done.length = k + 1 := ⟨done.length - 1, by omega⟩
    rw [hk]
    show ∃ a : Str, 1 ≤ a.size ∧ stateS st ++ ⟨#[32]⟩ ++ ((if 0 < k then jnS done k ++ ⟨#[44]⟩ else jnS done k) ++ nth done k) = a ++ nth done (k + 1 - 1)
    rw [← ByteArray.append_assoc]
    exact ⟨_, by rw [bsz_app, bsz_app]; omega, rfl⟩
theorem rt_end (st : Int) (done : List Str) : (lastS done).size < (rtS st done).size ∧ (rtS st done).extract ((rtS st done).size - (lastS done).size) (rtS st done).size = lastS done := by
  obtain ⟨a, h1, e⟩ := rt_split st done
  rw [e]
  have h2 := bsz_app a (lastS done)
  refine ⟨by omega, ?_⟩
  rw [show (a ++ lastS done).size - (lastS done).size = a.size by omega]
  exact ext_right a (lastS done)
end Go.Proofs.Ythcpjkhijjkolaa

/- Drawing a flow and a run out of a code. -/
namespace Go.Proofs.Ythcpjkhijjkolaa
open Go.RowKit

/-- What drawing a flow and a run leaves. -/
def BothQ (w0 : World) (g q : Nat) (w : World) (e : Ending) (w' : World) : Prop :=
  ∃ (v : Int) (A : Option Addr) (n c : Nat) (ss : List Step) (st : Int) (B : Option Addr) (m d : Nat) (xs : List Str), e = .returned (.tuple #[.agg #[.int .i64 v, .slice A n c], .agg #[.int .i64 st, .slice B m d]]) ∧
    RStep w' w.heap.size A n ss ∧ okSteps ss ∧ 1 ≤ n ∧ n ≤ 6 ∧ RStr w' w.heap.size B m xs ∧ m ≤ d ∧ m ≤ 9 ∧ Dr 131 w0 g (q + 200) w' ∧ On g w w'

set_option maxRecDepth 100000 in
set_option maxHeartbeats 1000000 in
theorem l91Both_any (w0 : World) (g q : Nat) (w : World) (h : Dr 131 w0 g q w) (hq : q ≤ 1099511600000) :
    Calls Try.prog 67 #[.pointer (some ⟨g, 0, none⟩)] w (BothQ w0 g q w) := by
  have HD := Lib.hid h; clear h
  have hgl := HD.out.lt
  have hd0 := (HD.out.here.alloc (.cells #[.int .i64 0, .slice none 0 0] 33)).alloc (.cells #[.int .i64 0, .slice none 0 0] 35)
  go_enter Try.func67, Try.ntmps67
  go_wp2_with fail
  refine (l91Flow_any w g q _ hd0 (by omega)).mono ?_
  rintro e w1 ⟨ver, A, n, c, ss, rfl, hs, hok, hn1, hn6, hd1, hon1⟩
  have hs1 := hon1.size
  rw [show ((w.alloc (.cells #[.int .i64 0, .slice none 0 0] 33)).alloc (.cells #[.int .i64 0, .slice none 0 0] 35)).heap.size = w.heap.size + 1 + 1 by simp] at hs1 hs
  have HRF := Lib.hid (heap_old (o := .cells #[.int .i64 ver, .slice A n c] 33) (hon1.blk (b := w.heap.size) (heap_old (heap_new rfl)) (by omega)))
  have HRR := Lib.hid (heap_old (o := .cells #[.int .i64 ver, .slice A n c] 33) (hon1.blk (b := w.heap.size + 1) (heap_new (by simp)) (by omega)))
  have HX1 := Lib.hid (heap_new (w := w1) (o := .cells #[.int .i64 ver, .slice A n c] 33) rfl)
  have HS1 := Lib.hid ((hs.alloc (.cells #[.int .i64 ver, .slice A n c] 33)).drew); clear hs hon1 hd0
  have HOK := Lib.hid hok; clear hok
  have HD1 := Lib.hid ((hd1.alloc (.cells #[.int .i64 ver, .slice A n c] 33)).drew); clear hd1
  have HRUN := Lib.hid (l91Run_any w g _ A n c ⟨ver, ss⟩ (w.heap.size + 1 + 1) _ HD1.out (by omega) HS1.out HOK.out (by omega) (by omega))
  have x0 := (blk_cl (k := 0) HX1.out rfl).1
  have x1 := (blk_cl (k := 1) HX1.out rfl).1
  go_wp2_with fail
  go_region_with (go_at_call 113; refine HRUN.out.mono ?_; rintro e w3 ⟨st, A3, n3, c3, xs, rfl, hss3, hnc3, hn39, hd3, hon3⟩; have HF3 := Lib.hid (hon3.blk HRF.out (by omega)); have HR3 := Lib.hid (hon3.blk HRR.out (by omega)); have hx3 := hon3.blk HX1.out (by simp; omega); have z0 := (blk_cl (k := 0) hx3 rfl).1; have z1 := (blk_cl (k := 1) hx3 rfl).1; have r0a := (blk_cl (k := 0) HF3.out rfl).1; have r0b := (blk_cl (k := 0) HF3.out rfl).2; have r1a := (blk_cl (k := 1) HF3.out rfl).1; have r1b := (blk_cl (k := 1) HF3.out rfl).2; have q0a := (blk_cl (k := 0) HR3.out rfl).1; have q0b := (blk_cl (k := 0) HR3.out rfl).2; have q1a := (blk_cl (k := 1) HR3.out rfl).1; have q1b := (blk_cl (k := 1) HR3.out rfl).2)
  all_goals go_wp2_with fail
  all_goals
    have hF := set21 (u := .slice A n c) (set20 (u := .int .i64 ver) HF3.out)
    have hF2 := set_ne (b := w.heap.size + 1) (o := 1) (u := .slice A3 n3 c3) (set_ne (b := w.heap.size + 1) (o := 0) (u := .int .i64 st) hF (by omega)) (by omega)
    have hR := set21 (u := .slice A3 n3 c3) (set20 (u := .int .i64 st) (set_ne (b := w.heap.size) (o := 1) (u := .slice A n c) (set_ne (b := w.heap.size) (o := 0) (u := .int .i64 ver) HR3.out (by omega)) (by omega)))
    have e0 := (blk_cl (k := 0) hF2 rfl).1
    have e1 := (blk_cl (k := 1) hF2 rfl).1
    have e2 := (blk_cl (k := 0) hR rfl).1
    have e3 := (blk_cl (k := 1) hR rfl).1
    have hsz : (w1.alloc (.cells #[.int .i64 ver, .slice A n c] 33)).drew.heap.size = w1.heap.size + 1 := by simp
    have hst3 := HS1.out.on hon3 (by omega)
    have hss := hss3.hat
    rw [hsz] at hss
    have hdr := (((hd3.set_ (b := w.heap.size) (Nat.le_refl _) hgl 0 (.int .i64 ver)).set_ (b := w.heap.size) (Nat.le_refl _) hgl 1 (.slice A n c)).set_ (b := w.heap.size + 1) (Nat.le_succ _) (by omega) 0 (.int .i64 st)).set_ (b := w.heap.size + 1) (Nat.le_succ _) (by omega) 1 (.slice A3 n3 c3)
    exact bodyPost_ret (v := .tuple #[.agg #[.int .i64 ver, .slice A n c], .agg #[.int .i64 st, .slice A3 n3 c3]]) (by simp [results, Try.results67, go_sem, e0, e1, e2, e3]) rfl
      ⟨_, _, _, _, ss, _, _, _, _, xs, rfl, ((((hst3.setLow (by omega)).setLow (by omega)).setLow (by omega)).setLow (by omega)).lower (by omega), HOK.out, hn1, hn6, ((((hss.setLow (by omega)).setLow (by omega)).setLow (by omega)).setLow (by omega)).lower (by omega), hnc3, hn39, (HD.out.trans hdr).more (by omega), hdr.on⟩

def BothD (w : World) (e : Ending) (w' : World) : Prop :=
  ∃ (f : Flow) (A : Option Addr) (n c : Nat) (st : Int) (B : Option Addr) (m d : Nat) (xs : List Str), e = .returned (.tuple #[.agg #[.int .i64 f.ver, .slice A n c], .agg #[.int .i64 st, .slice B m d]]) ∧
    RStep w' w.heap.size A n f.steps ∧ okSteps f.steps ∧ 1 ≤ n ∧ n ≤ 6 ∧ RStr w' w.heap.size B m xs ∧ m ≤ d ∧ m ≤ 9 ∧ Below w.heap.size w w'

set_option maxRecDepth 100000 in
theorem drawRunText_any (A : Option Addr) (n c : Nat) (w : World) (hr : RByte w A n) (hc : n ≤ c) (hn : n ≤ 1048576) : Calls Try.prog 22 #[.slice A n c] w (BothD w) := by
  have HR := Lib.hid ((hr.alloc (.cells #[.int .i64 0, .slice none 0 0] 33)).alloc (.cells #[.int .i64 0, .slice none 0 0] 35)); clear hr
  go_enter Try.func22, Try.ntmps22
  go_wp2_with fail
  refine (open_any _ _ _ _ HR.out hc hn).mono ?_
  rintro e w1 ⟨rfl, hrd, hb1⟩
  have hsz : ((w.alloc (.cells #[.int .i64 0, .slice none 0 0] 33)).alloc (.cells #[.int .i64 0, .slice none 0 0] 35)).heap.size = w.heap.size + 1 + 1 := by simp
  rw [hsz] at hrd hb1 ⊢
  have hd0 : Dr 131 w1 (w.heap.size + 1 + 1) 0 w1 := ⟨On.refl _ _, 0, Nat.le_refl _, hrd⟩
  have hl1 := hrd.lt
  have HRF := Lib.hid ((hb1.block w.heap.size (by omega)).trans (heap_old (o := .cells #[.int .i64 0, .slice none 0 0] 35) (heap_new (w := w) (o := .cells #[.int .i64 0, .slice none 0 0] 33) rfl)))
  have HRR := Lib.hid ((hb1.block (w.heap.size + 1) (by omega)).trans (heap_new (w := w.alloc (.cells #[.int .i64 0, .slice none 0 0] 33)) (o := .cells #[.int .i64 0, .slice none 0 0] 35) (by simp)))
  have HB1 := Lib.hid ((((Below.refl w.heap.size w).alloc (Nat.le_refl _) (.cells #[.int .i64 0, .slice none 0 0] 33)).alloc (by simp) (.cells #[.int .i64 0, .slice none 0 0] 35)).trans (hb1.mono (by omega)))
  clear hrd hb1 hsz
  go_wp2_with fail
  refine (l91Both_any w1 _ _ _ hd0 (by omega)).mono ?_
  rintro e w2 ⟨v, A2, n2, c2, ss, st, B2, m2, d2, xs, rfl, hs, hok, h1, h6, hxs, hmd, hm9, hd, hon⟩
  have HS := Lib.hid hs; clear hs
  have HX := Lib.hid hxs; clear hxs
  have HF3 := Lib.hid (hon.blk HRF.out (by omega))
  have HR3 := Lib.hid (hon.blk HRR.out (by omega))
  have HB2 := Lib.hid (HB1.out.trans ((hon.low (Nat.le_of_lt hl1)).mono (by omega)))
  have HOK := Lib.hid hok; clear hok
  clear hon hd hd0
  have r0a := (blk_cl (k := 0) HF3.out rfl).1
  have r0b := (blk_cl (k := 0) HF3.out rfl).2
  have r1a := (blk_cl (k := 1) HF3.out rfl).1
  have r1b := (blk_cl (k := 1) HF3.out rfl).2
  have q0a := (blk_cl (k := 0) HR3.out rfl).1
  have q0b := (blk_cl (k := 0) HR3.out rfl).2
  have q1a := (blk_cl (k := 1) HR3.out rfl).1
  have q1b := (blk_cl (k := 1) HR3.out rfl).2
  go_wp2_with fail
  have hF := set21 (u := .slice A2 n2 c2) (set20 (u := .int .i64 v) HF3.out)
  have hF2 := set_ne (b := w.heap.size + 1) (o := 1) (u := .slice B2 m2 d2) (set_ne (b := w.heap.size + 1) (o := 0) (u := .int .i64 st) hF (by omega)) (by omega)
  have hR := set21 (u := .slice B2 m2 d2) (set20 (u := .int .i64 st) (set_ne (b := w.heap.size) (o := 1) (u := .slice A2 n2 c2) (set_ne (b := w.heap.size) (o := 0) (u := .int .i64 v) HR3.out (by omega)) (by omega)))
  have e0 := (blk_cl (k := 0) hF2 rfl).1
  have e1 := (blk_cl (k := 1) hF2 rfl).1
  have e2 := (blk_cl (k := 0) hR rfl).1
  have e3 := (blk_cl (k := 1) hR rfl).1
  have hbl := (((HB2.out.setCell (p := ⟨w.heap.size, 0, none⟩) (Nat.le_refl _) (.int .i64 v)).setCell (p := ⟨w.heap.size, 1, none⟩) (Nat.le_refl _) (.slice A2 n2 c2)).setCell (p := ⟨w.heap.size + 1, 0, none⟩) (Nat.le_succ _) (.int .i64 st)).setCell (p := ⟨w.heap.size + 1, 1, none⟩) (Nat.le_succ _) (.slice B2 m2 d2)
  exact bodyPost_ret (v := .tuple #[.agg #[.int .i64 v, .slice A2 n2 c2], .agg #[.int .i64 st, .slice B2 m2 d2]]) (by simp [results, Try.results22, go_sem, e0, e1, e2, e3]) rfl
    ⟨⟨v, ss⟩, _, _, _, _, _, _, _, xs, rfl, ((((HS.out.setLow (by omega)).setLow (by omega)).setLow (by omega)).setLow (by omega)).lower (by omega), HOK.out, h1, h6, ((((HX.out.setLow (by omega)).setLow (by omega)).setLow (by omega)).setLow (by omega)).lower (by omega), hmd, hm9, hbl⟩
end Go.Proofs.Ythcpjkhijjkolaa

/- Texts of runs: the program's side. -/
namespace Go.Proofs.Ythcpjkhijjkolaa
open Go.RowKit

section
variable {P : Program} {ops : Array Oper} {Q : Exit → Act → World → Prop} {md : Region.Mode} {S S' : World → Prop}
/-- The condition may grow on the way. -/
theorem wpAnyH_mono (hss : ∀ w, S' w → S w) : ∀ (fuel : Nat) (listed : Array Bool) (a : Act) (w : World), wpAnyH P md ops Q S' fuel listed a w → wpAnyH P md ops Q S fuel listed a w
  | 0, _, _, _, h => h
  | fuel + 1, _, _, _, h => ⟨h.1, fun i hi => wpOp_mono (fun a' w' h' => ⟨hss w' h'.1, wpAnyH_mono hss fuel _ a' w' h'.2⟩) (h.2 i hi)⟩
theorem wpAnyH_takeD {i : Nat} {oi : Oper} {v : Value} {d : Option Tmp} {fuel : Nat} {listed : Array Bool} {a : Act} {w : World} (hi : ops[i]? = some oi) (hd : oi.dst = d)
    (hs : Region.noSelect ops = true) (hf : Region.free md ops listed i = true) (hr : (Region.ready md ops listed).contains i = true)
    (hQ : ∀ c a w, Q (.panic c) (a.put d v) w → Q (.panic c) a w) (hy : YieldsIf P ops S oi v a) (hS : S w)
    (h : wpAnyH P md ops Q S fuel (listed.setIfInBounds i true) (a.put d v) w) : wpAnyH P md ops Q S (fuel + 1) listed a w := by
  subst hd
  exact wpAnyH_take hi hs hf hr hQ hy hS h
end

set_option maxRecDepth 100000 in
set_option maxHeartbeats 2000000 in
theorem runTextI_any (A B : Option Addr) (n c m d : Nat) (f : Flow) (st : Int) (done : List Str) (lo lo' : Nat) (w : World) (hr : RStep w lo A n f.steps) (hok : okSteps f.steps) (hd : RStr w lo' B m done) (hm : m ≤ 1048576) (hmd : m ≤ d) :
    Calls Try.prog 19 #[.agg #[.int .i64 f.ver, .slice A n c], .agg #[.int .i64 st, .slice B m d]] w fun e w' => e = .returned (.string (rtT f st done)) ∧ Below w.heap.size w w' := by
  have HO := Lib.hid hok; clear hok
  have HY0 := Lib.hid (heap_new (w := w.alloc (.cells #[.int .i64 f.ver, .slice A n c] 33)) (b := w.heap.size + 1) (o := .cells #[.int .i64 st, .slice B m d] 35) (by simp))
  have HB0 := Lib.hid (((Below.refl w.heap.size w).alloc (Nat.le_refl _) (.cells #[.int .i64 f.ver, .slice A n c] 33)).alloc (by simp) (.cells #[.int .i64 st, .slice B m d] 35))
  have HR := Lib.hid ((hr.alloc (.cells #[.int .i64 f.ver, .slice A n c] 33)).alloc (.cells #[.int .i64 st, .slice B m d] 35)); clear hr
  have HD := Lib.hid ((hd.alloc (.cells #[.int .i64 f.ver, .slice A n c] 33)).alloc (.cells #[.int .i64 st, .slice B m d] 35)); clear hd
  have HLm := Lib.hid (show done.length = m from HD.out.1)
  go_enter Try.func19, Try.ntmps19
  go_wp2_with fail
  refine (runI_any _ _ _ _ _ _ f st done _ _ _ HR.out HO.out HD.out hm hmd).mono ?_
  rintro e w1 ⟨rfl, hb⟩
  have HY1 := Lib.hid ((hb.block _ (heap_lt HY0.out)).trans HY0.out)
  have HB1 := Lib.hid (HB0.out.trans (hb.mono HB0.out.size))
  have HD1 := Lib.hid (HD.out.below hb)
  clear hb HY0 HR HD HB0
  cases hrb : runB f st done
  · have HE := Lib.hid (rtT_no hrb); clear hrb
    go_wp2_with fail
    go_ret
    exact ⟨ret_s HE.out.symm, HB1.out⟩
  have HE := Lib.hid (rtT_yes hrb)
  obtain ⟨h8, hnm⟩ := run_sizes hrb
  have hst := run_state hrb
  have q1 := namesS_size8 h8 hnm
  have HNM := Lib.hid hnm; clear hnm hrb
  have hm8 : m ≤ 8 := by rw [← HLm.out]; exact h8
  clear h8
  have hwx := heap_lt HY1.out
  have HSB : Hid (∀ w', Below w1.heap.size w1 w' → (w'.cell? ⟨w.heap.size + 1, 0, none⟩ = some (.int .i64 st) ∧ w'.cell? ⟨w.heap.size + 1, 1, none⟩ = some (.slice B m d)) ∧ Below w1.heap.size w1 w') := fun w' h => by
    have e1 := (h.block _ (heap_lt HY1.out)).trans HY1.out
    exact ⟨⟨(blk_cl (k := 0) e1 rfl).1, (blk_cl (k := 1) e1 rfl).1⟩, h⟩
  have HNT : Hid (∀ cur, Below w1.heap.size w1 cur → Calls Try.prog 65 #[.slice B m d] cur fun e w' => e = .returned (.string (namesS done)) ∧ Below w1.heap.size w1 w' ∧ Below cur.heap.size cur w') := fun cur h =>
    (namesTextI_any B m d done _ cur (HD1.out.below h) hmd (by omega) (fun j hj => by have := (nameB_size (HNM.out j (by rw [HLm.out]; exact hj))).2; omega)).mono fun e w' ⟨he, hb⟩ => ⟨he, h.trans (hb.mono h.size), hb⟩
  generalize hnd : namesS done = nd at *
  have HND := Lib.hid hnd; clear hnd
  by_cases h0 : st = 0
  · subst h0
    have HE0 := Lib.hid (show stateS 0 = ⟨#[103, 111, 101, 115]⟩ from rfl)
    clear hst
    go_wp2_with fail
    refine wp_region_held_drew (S := fun w' => (w'.cell? ⟨w.heap.size + 1, 0, none⟩ = some (.int .i64 0) ∧ w'.cell? ⟨w.heap.size + 1, 1, none⟩ = some (.slice B m d)) ∧ Below w1.heap.size w1 w') (by kernel_rfl) (HSB.out _ (Below.refl _ _).drew) (fun hH => ?_)
    refine wpAnyH_takeD (i := 1) (d := some 10) (v := ?v1) rfl (by rfl) (by kernel_rfl) (by kernel_rfl) (by kernel_rfl) (fun _ _ _ h => h) (Or.inl ⟨by rfl, ?y1⟩) hH ?r1
    case y1 => (intro w' hS; (try dsimp only at hS); go_simp; (try with_reducible rfl))
    (try simp only [Act.put, List.setIfInBounds_toArray, List.set_cons_zero, List.set_cons_succ])
    refine wpAnyH_takeD (i := 2) (d := some 11) (v := ?v2) rfl (by rfl) (by kernel_rfl) (by kernel_rfl) (by kernel_rfl) (fun _ _ _ h => h) (Or.inl ⟨by rfl, ?y2⟩) hH ?r2
    case y2 => (intro w' hS; (try dsimp only at hS); go_simp; (try with_reducible rfl))
    (try simp only [Act.put, List.setIfInBounds_toArray, List.set_cons_zero, List.set_cons_succ])
    refine wpAnyH_takeD (i := 6) (d := some 15) (v := ?v3) rfl (by rfl) (by kernel_rfl) (by kernel_rfl) (by kernel_rfl) (fun _ _ _ h => h) (Or.inl ⟨by rfl, ?y3⟩) hH ?r3
    case y3 => (intro w' hS; (try dsimp only at hS); go_simp; (try with_reducible rfl))
    (try simp only [Act.put, List.setIfInBounds_toArray, List.set_cons_zero, List.set_cons_succ])
    refine wpAnyH_takeD (i := 7) (d := some 16) (v := ?v4) rfl (by rfl) (by kernel_rfl) (by kernel_rfl) (by kernel_rfl) (fun _ _ _ h => h) (Or.inl ⟨by rfl, ?y4⟩) hH ?r4
    case y4 => (intro w' hS; (try dsimp only at hS); go_simp; (try with_reducible rfl))
    (try simp only [Act.put, List.setIfInBounds_toArray, List.set_cons_zero, List.set_cons_succ])
    refine wpAnyH_ready (rs := [0, 8]) (by kernel_rfl) (by simp) ?_
    refine AllReadyH.cons rfl (fun K hK => ?_) ?_
    · go_simp
      refine hK.out _ _ (HSB.out _ (Below.al_ (Below.refl _ _).drew _)) (fun hH2 => ?_)
      clear hK K hH
      have hH := And.intro hH2 (blk_cl (w := w1.drew.alloc (.cells #[.string ⟨#[103, 111, 101, 115]⟩, .string ⟨#[98, 97, 99, 107]⟩, .string ⟨#[101, 110, 100, 101, 100]⟩, .string ⟨#[117, 110, 100, 111, 110, 101]⟩] 9)) (b := w1.heap.size) (k := 0) (heap_new rfl) rfl).1
      refine wpAnyH_mono (S' := fun w' => ((w'.cell? ⟨w.heap.size + 1, 0, none⟩ = some (.int .i64 0) ∧ w'.cell? ⟨w.heap.size + 1, 1, none⟩ = some (.slice B m d)) ∧ Below w1.heap.size w1 w') ∧ w'.cell? ⟨w1.heap.size, 0, none⟩ = some (.string ⟨#[103, 111, 101, 115]⟩)) (fun w h => h.1) _ _ _ _ ?_
      (try simp only [Act.put, List.setIfInBounds_toArray, List.set_cons_zero, List.set_cons_succ])
      refine wpAnyH_takeD (i := 3) (d := some 12) (v := ?v5) rfl (by rfl) (by kernel_rfl) (by kernel_rfl) (by kernel_rfl) (fun _ _ _ h => h) (Or.inl ⟨by rfl, ?y5⟩) hH ?r5
      case y5 => (intro w' hS; (try dsimp only at hS); go_simp; (try with_reducible rfl))
      (try simp only [Act.put, List.setIfInBounds_toArray, List.set_cons_zero, List.set_cons_succ])
      refine wpAnyH_takeD (i := 4) (d := some 13) (v := ?v6) rfl (by rfl) (by kernel_rfl) (by kernel_rfl) (by kernel_rfl) (fun _ _ _ h => h) (Or.inl ⟨by rfl, ?y6⟩) hH ?r6
      case y6 => (intro w' hS; (try dsimp only at hS); go_simp; (try with_reducible rfl))
      (try simp only [Act.put, List.setIfInBounds_toArray, List.set_cons_zero, List.set_cons_succ])
      refine wpAnyH_takeD (i := 5) (d := some 14) (v := ?v7) rfl (by rfl) (by kernel_rfl) (by kernel_rfl) (by kernel_rfl) (fun _ _ _ h => h) (Or.inl ⟨by rfl, ?y7⟩) hH ?r7
      case y7 => (intro w' hS; (try dsimp only at hS); go_simp; (try with_reducible rfl))
      (try simp only [Act.put, List.setIfInBounds_toArray, List.set_cons_zero, List.set_cons_succ])
      generalize hz5 : (⟨#[103, 111, 101, 115]⟩ ++ ⟨#[32]⟩ : Str) = z5
      have hs5 : z5.size ≤ 7 := by rw [← hz5, bsz_app]; show 4 + 1 ≤ 7; omega
      have HZ5 := Lib.hid hz5; clear hz5
      refine wpAnyH_ready (rs := [8]) (by kernel_rfl) (by simp) ?_
      refine AllReadyH.cons rfl (fun K hK => ?_) AllReadyH.nil
      go_wp2_with fail
      go_at_call 65
      refine (HNT.out _ (by repeat (first | with_reducible exact hbw | with_reducible exact Below.refl _ _ | apply Below.drew | apply Below.al_))).mono ?_
      rintro e w2 ⟨rfl, hbw, hb2⟩
      go_wp2_with fail
      refine hK.out _ _ ⟨HSB.out _ hbw, (hb2.cell (p := ⟨w1.heap.size, 0, none⟩) (by simp)).trans hH.2⟩ (fun hH3 => ?_)
      clear hK K hH
      have hH := hH3
      (try simp only [Act.put, List.setIfInBounds_toArray, List.set_cons_zero, List.set_cons_succ])
      refine wpAnyH_ready (rs := [9]) (by kernel_rfl) (by simp) ?_
      refine AllReadyH.cons rfl (fun K hK => ?_) AllReadyH.nil
      go_simp
      rw [if_neg (by omega)]
      (try simp only [Oper.upon])
      refine hK.out _ _ hH (fun _ => ?_)
      clear hK K
      (try simp only [Act.put, List.setIfInBounds_toArray, List.set_cons_zero, List.set_cons_succ])
      refine wpAnyH_takeD (i := 10) (d := some 4) (v := ?v8) rfl (by rfl) (by kernel_rfl) (by kernel_rfl) (by kernel_rfl) (fun _ _ _ h => h) (Or.inl ⟨by rfl, ?y8⟩) hH ?r8
      case y8 => (intro w' hS; (try dsimp only at hS); go_simp; (try with_reducible rfl))
      (try simp only [Act.put, List.setIfInBounds_toArray, List.set_cons_zero, List.set_cons_succ])
      refine wpAnyH_done (by kernel_rfl) ?_ _
      go_wp2_with fail
      go_ret
      exact ⟨ret_s (by rw [HE.out]; unfold rtS; rw [HND.out, HE0.out, HZ5.out]), HB1.out.trans ((by repeat (first | with_reducible exact hbw | with_reducible exact Below.refl _ _ | apply Below.drew | apply Below.al_) : Below w1.heap.size w1 _).mono HB1.out.size)⟩
    refine AllReadyH.cons rfl (fun K hK => ?_) AllReadyH.nil
    go_wp2_with fail
    go_at_call 65
    refine (HNT.out _ (by repeat (first | with_reducible exact hbw | with_reducible exact Below.refl _ _ | apply Below.drew | apply Below.al_))).mono ?_
    rintro e w2 ⟨rfl, hbw, hb2⟩
    go_wp2_with fail
    refine hK.out _ _ (HSB.out _ hbw) (fun hH2 => ?_)
    clear hK K hH
    have hH := hH2
    (try simp only [Act.put, List.setIfInBounds_toArray, List.set_cons_zero, List.set_cons_succ])
    refine wpAnyH_ready (rs := [0]) (by kernel_rfl) (by simp) ?_
    refine AllReadyH.cons rfl (fun K hK => ?_) AllReadyH.nil
    go_simp
    refine hK.out _ _ (HSB.out _ (Below.al_ hbw _)) (fun hH2 => ?_)
    clear hK K hH
    have hbx := hbw
    have hH := And.intro hH2 (blk_cl (w := w2.alloc (.cells #[.string ⟨#[103, 111, 101, 115]⟩, .string ⟨#[98, 97, 99, 107]⟩, .string ⟨#[101, 110, 100, 101, 100]⟩, .string ⟨#[117, 110, 100, 111, 110, 101]⟩] 9)) (b := w2.heap.size) (k := 0) (heap_new rfl) rfl).1
    refine wpAnyH_mono (S' := fun w' => ((w'.cell? ⟨w.heap.size + 1, 0, none⟩ = some (.int .i64 0) ∧ w'.cell? ⟨w.heap.size + 1, 1, none⟩ = some (.slice B m d)) ∧ Below w1.heap.size w1 w') ∧ w'.cell? ⟨w2.heap.size, 0, none⟩ = some (.string ⟨#[103, 111, 101, 115]⟩)) (fun w h => h.1) _ _ _ _ ?_
    (try simp only [Act.put, List.setIfInBounds_toArray, List.set_cons_zero, List.set_cons_succ])
    refine wpAnyH_takeD (i := 3) (d := some 12) (v := ?v9) rfl (by rfl) (by kernel_rfl) (by kernel_rfl) (by kernel_rfl) (fun _ _ _ h => h) (Or.inl ⟨by rfl, ?y9⟩) hH ?r9
    case y9 => (intro w' hS; (try dsimp only at hS); go_simp; (try with_reducible rfl))
    (try simp only [Act.put, List.setIfInBounds_toArray, List.set_cons_zero, List.set_cons_succ])
    refine wpAnyH_takeD (i := 4) (d := some 13) (v := ?v10) rfl (by rfl) (by kernel_rfl) (by kernel_rfl) (by kernel_rfl) (fun _ _ _ h => h) (Or.inl ⟨by rfl, ?y10⟩) hH ?r10
    case y10 => (intro w' hS; (try dsimp only at hS); go_simp; (try with_reducible rfl))
    (try simp only [Act.put, List.setIfInBounds_toArray, List.set_cons_zero, List.set_cons_succ])
    refine wpAnyH_takeD (i := 5) (d := some 14) (v := ?v11) rfl (by rfl) (by kernel_rfl) (by kernel_rfl) (by kernel_rfl) (fun _ _ _ h => h) (Or.inl ⟨by rfl, ?y11⟩) hH ?r11
    case y11 => (intro w' hS; (try dsimp only at hS); go_simp; (try with_reducible rfl))
    (try simp only [Act.put, List.setIfInBounds_toArray, List.set_cons_zero, List.set_cons_succ])
    generalize hz5 : (⟨#[103, 111, 101, 115]⟩ ++ ⟨#[32]⟩ : Str) = z5
    have hs5 : z5.size ≤ 7 := by rw [← hz5, bsz_app]; show 4 + 1 ≤ 7; omega
    have HZ5 := Lib.hid hz5; clear hz5
    refine wpAnyH_ready (rs := [9]) (by kernel_rfl) (by simp) ?_
    refine AllReadyH.cons rfl (fun K hK => ?_) AllReadyH.nil
    go_simp
    rw [if_neg (by omega)]
    (try simp only [Oper.upon])
    refine hK.out _ _ hH (fun _ => ?_)
    clear hK K
    (try simp only [Act.put, List.setIfInBounds_toArray, List.set_cons_zero, List.set_cons_succ])
    refine wpAnyH_takeD (i := 10) (d := some 4) (v := ?v12) rfl (by rfl) (by kernel_rfl) (by kernel_rfl) (by kernel_rfl) (fun _ _ _ h => h) (Or.inl ⟨by rfl, ?y12⟩) hH ?r12
    case y12 => (intro w' hS; (try dsimp only at hS); go_simp; (try with_reducible rfl))
    (try simp only [Act.put, List.setIfInBounds_toArray, List.set_cons_zero, List.set_cons_succ])
    refine wpAnyH_done (by kernel_rfl) ?_ _
    go_wp2_with fail
    go_ret
    exact ⟨ret_s (by rw [HE.out]; unfold rtS; rw [HND.out, HE0.out, HZ5.out]), HB1.out.trans ((by repeat (first | with_reducible exact hbw | with_reducible exact Below.refl _ _ | apply Below.drew | apply Below.al_) : Below w1.heap.size w1 _).mono HB1.out.size)⟩
  by_cases h1 : st = 1
  · subst h1
    have HE1 := Lib.hid (show stateS 1 = ⟨#[98, 97, 99, 107]⟩ from rfl)
    clear hst
    go_wp2_with fail
    refine wp_region_held_drew (S := fun w' => (w'.cell? ⟨w.heap.size + 1, 0, none⟩ = some (.int .i64 1) ∧ w'.cell? ⟨w.heap.size + 1, 1, none⟩ = some (.slice B m d)) ∧ Below w1.heap.size w1 w') (by kernel_rfl) (HSB.out _ (Below.refl _ _).drew) (fun hH => ?_)
    refine wpAnyH_takeD (i := 1) (d := some 10) (v := ?v13) rfl (by rfl) (by kernel_rfl) (by kernel_rfl) (by kernel_rfl) (fun _ _ _ h => h) (Or.inl ⟨by rfl, ?y13⟩) hH ?r13
    case y13 => (intro w' hS; (try dsimp only at hS); go_simp; (try with_reducible rfl))
    (try simp only [Act.put, List.setIfInBounds_toArray, List.set_cons_zero, List.set_cons_succ])
    refine wpAnyH_takeD (i := 2) (d := some 11) (v := ?v14) rfl (by rfl) (by kernel_rfl) (by kernel_rfl) (by kernel_rfl) (fun _ _ _ h => h) (Or.inl ⟨by rfl, ?y14⟩) hH ?r14
    case y14 => (intro w' hS; (try dsimp only at hS); go_simp; (try with_reducible rfl))
    (try simp only [Act.put, List.setIfInBounds_toArray, List.set_cons_zero, List.set_cons_succ])
    refine wpAnyH_takeD (i := 6) (d := some 15) (v := ?v15) rfl (by rfl) (by kernel_rfl) (by kernel_rfl) (by kernel_rfl) (fun _ _ _ h => h) (Or.inl ⟨by rfl, ?y15⟩) hH ?r15
    case y15 => (intro w' hS; (try dsimp only at hS); go_simp; (try with_reducible rfl))
    (try simp only [Act.put, List.setIfInBounds_toArray, List.set_cons_zero, List.set_cons_succ])
    refine wpAnyH_takeD (i := 7) (d := some 16) (v := ?v16) rfl (by rfl) (by kernel_rfl) (by kernel_rfl) (by kernel_rfl) (fun _ _ _ h => h) (Or.inl ⟨by rfl, ?y16⟩) hH ?r16
    case y16 => (intro w' hS; (try dsimp only at hS); go_simp; (try with_reducible rfl))
    (try simp only [Act.put, List.setIfInBounds_toArray, List.set_cons_zero, List.set_cons_succ])
    refine wpAnyH_ready (rs := [0, 8]) (by kernel_rfl) (by simp) ?_
    refine AllReadyH.cons rfl (fun K hK => ?_) ?_
    · go_simp
      refine hK.out _ _ (HSB.out _ (Below.al_ (Below.refl _ _).drew _)) (fun hH2 => ?_)
      clear hK K hH
      have hH := And.intro hH2 (blk_cl (w := w1.drew.alloc (.cells #[.string ⟨#[103, 111, 101, 115]⟩, .string ⟨#[98, 97, 99, 107]⟩, .string ⟨#[101, 110, 100, 101, 100]⟩, .string ⟨#[117, 110, 100, 111, 110, 101]⟩] 9)) (b := w1.heap.size) (k := 1) (heap_new rfl) rfl).1
      refine wpAnyH_mono (S' := fun w' => ((w'.cell? ⟨w.heap.size + 1, 0, none⟩ = some (.int .i64 1) ∧ w'.cell? ⟨w.heap.size + 1, 1, none⟩ = some (.slice B m d)) ∧ Below w1.heap.size w1 w') ∧ w'.cell? ⟨w1.heap.size, 1, none⟩ = some (.string ⟨#[98, 97, 99, 107]⟩)) (fun w h => h.1) _ _ _ _ ?_
      (try simp only [Act.put, List.setIfInBounds_toArray, List.set_cons_zero, List.set_cons_succ])
      refine wpAnyH_takeD (i := 3) (d := some 12) (v := ?v17) rfl (by rfl) (by kernel_rfl) (by kernel_rfl) (by kernel_rfl) (fun _ _ _ h => h) (Or.inl ⟨by rfl, ?y17⟩) hH ?r17
      case y17 => (intro w' hS; (try dsimp only at hS); go_simp; (try with_reducible rfl))
      (try simp only [Act.put, List.setIfInBounds_toArray, List.set_cons_zero, List.set_cons_succ])
      refine wpAnyH_takeD (i := 4) (d := some 13) (v := ?v18) rfl (by rfl) (by kernel_rfl) (by kernel_rfl) (by kernel_rfl) (fun _ _ _ h => h) (Or.inl ⟨by rfl, ?y18⟩) hH ?r18
      case y18 => (intro w' hS; (try dsimp only at hS); go_simp; (try with_reducible rfl))
      (try simp only [Act.put, List.setIfInBounds_toArray, List.set_cons_zero, List.set_cons_succ])
      refine wpAnyH_takeD (i := 5) (d := some 14) (v := ?v19) rfl (by rfl) (by kernel_rfl) (by kernel_rfl) (by kernel_rfl) (fun _ _ _ h => h) (Or.inl ⟨by rfl, ?y19⟩) hH ?r19
      case y19 => (intro w' hS; (try dsimp only at hS); go_simp; (try with_reducible rfl))
      (try simp only [Act.put, List.setIfInBounds_toArray, List.set_cons_zero, List.set_cons_succ])
      generalize hz5 : (⟨#[98, 97, 99, 107]⟩ ++ ⟨#[32]⟩ : Str) = z5
      have hs5 : z5.size ≤ 7 := by rw [← hz5, bsz_app]; show 4 + 1 ≤ 7; omega
      have HZ5 := Lib.hid hz5; clear hz5
      refine wpAnyH_ready (rs := [8]) (by kernel_rfl) (by simp) ?_
      refine AllReadyH.cons rfl (fun K hK => ?_) AllReadyH.nil
      go_wp2_with fail
      go_at_call 65
      refine (HNT.out _ (by repeat (first | with_reducible exact hbw | with_reducible exact Below.refl _ _ | apply Below.drew | apply Below.al_))).mono ?_
      rintro e w2 ⟨rfl, hbw, hb2⟩
      go_wp2_with fail
      refine hK.out _ _ ⟨HSB.out _ hbw, (hb2.cell (p := ⟨w1.heap.size, 1, none⟩) (by simp)).trans hH.2⟩ (fun hH3 => ?_)
      clear hK K hH
      have hH := hH3
      (try simp only [Act.put, List.setIfInBounds_toArray, List.set_cons_zero, List.set_cons_succ])
      refine wpAnyH_ready (rs := [9]) (by kernel_rfl) (by simp) ?_
      refine AllReadyH.cons rfl (fun K hK => ?_) AllReadyH.nil
      go_simp
      rw [if_neg (by omega)]
      (try simp only [Oper.upon])
      refine hK.out _ _ hH (fun _ => ?_)
      clear hK K
      (try simp only [Act.put, List.setIfInBounds_toArray, List.set_cons_zero, List.set_cons_succ])
      refine wpAnyH_takeD (i := 10) (d := some 4) (v := ?v20) rfl (by rfl) (by kernel_rfl) (by kernel_rfl) (by kernel_rfl) (fun _ _ _ h => h) (Or.inl ⟨by rfl, ?y20⟩) hH ?r20
      case y20 => (intro w' hS; (try dsimp only at hS); go_simp; (try with_reducible rfl))
      (try simp only [Act.put, List.setIfInBounds_toArray, List.set_cons_zero, List.set_cons_succ])
      refine wpAnyH_done (by kernel_rfl) ?_ _
      go_wp2_with fail
      go_ret
      exact ⟨ret_s (by rw [HE.out]; unfold rtS; rw [HND.out, HE1.out, HZ5.out]), HB1.out.trans ((by repeat (first | with_reducible exact hbw | with_reducible exact Below.refl _ _ | apply Below.drew | apply Below.al_) : Below w1.heap.size w1 _).mono HB1.out.size)⟩
    refine AllReadyH.cons rfl (fun K hK => ?_) AllReadyH.nil
    go_wp2_with fail
    go_at_call 65
    refine (HNT.out _ (by repeat (first | with_reducible exact hbw | with_reducible exact Below.refl _ _ | apply Below.drew | apply Below.al_))).mono ?_
    rintro e w2 ⟨rfl, hbw, hb2⟩
    go_wp2_with fail
    refine hK.out _ _ (HSB.out _ hbw) (fun hH2 => ?_)
    clear hK K hH
    have hH := hH2
    (try simp only [Act.put, List.setIfInBounds_toArray, List.set_cons_zero, List.set_cons_succ])
    refine wpAnyH_ready (rs := [0]) (by kernel_rfl) (by simp) ?_
    refine AllReadyH.cons rfl (fun K hK => ?_) AllReadyH.nil
    go_simp
    refine hK.out _ _ (HSB.out _ (Below.al_ hbw _)) (fun hH2 => ?_)
    clear hK K hH
    have hbx := hbw
    have hH := And.intro hH2 (blk_cl (w := w2.alloc (.cells #[.string ⟨#[103, 111, 101, 115]⟩, .string ⟨#[98, 97, 99, 107]⟩, .string ⟨#[101, 110, 100, 101, 100]⟩, .string ⟨#[117, 110, 100, 111, 110, 101]⟩] 9)) (b := w2.heap.size) (k := 1) (heap_new rfl) rfl).1
    refine wpAnyH_mono (S' := fun w' => ((w'.cell? ⟨w.heap.size + 1, 0, none⟩ = some (.int .i64 1) ∧ w'.cell? ⟨w.heap.size + 1, 1, none⟩ = some (.slice B m d)) ∧ Below w1.heap.size w1 w') ∧ w'.cell? ⟨w2.heap.size, 1, none⟩ = some (.string ⟨#[98, 97, 99, 107]⟩)) (fun w h => h.1) _ _ _ _ ?_
    (try simp only [Act.put, List.setIfInBounds_toArray, List.set_cons_zero, List.set_cons_succ])
    refine wpAnyH_takeD (i := 3) (d := some 12) (v := ?v21) rfl (by rfl) (by kernel_rfl) (by kernel_rfl) (by kernel_rfl) (fun _ _ _ h => h) (Or.inl ⟨by rfl, ?y21⟩) hH ?r21
    case y21 => (intro w' hS; (try dsimp only at hS); go_simp; (try with_reducible rfl))
    (try simp only [Act.put, List.setIfInBounds_toArray, List.set_cons_zero, List.set_cons_succ])
    refine wpAnyH_takeD (i := 4) (d := some 13) (v := ?v22) rfl (by rfl) (by kernel_rfl) (by kernel_rfl) (by kernel_rfl) (fun _ _ _ h => h) (Or.inl ⟨by rfl, ?y22⟩) hH ?r22
    case y22 => (intro w' hS; (try dsimp only at hS); go_simp; (try with_reducible rfl))
    (try simp only [Act.put, List.setIfInBounds_toArray, List.set_cons_zero, List.set_cons_succ])
    refine wpAnyH_takeD (i := 5) (d := some 14) (v := ?v23) rfl (by rfl) (by kernel_rfl) (by kernel_rfl) (by kernel_rfl) (fun _ _ _ h => h) (Or.inl ⟨by rfl, ?y23⟩) hH ?r23
    case y23 => (intro w' hS; (try dsimp only at hS); go_simp; (try with_reducible rfl))
    (try simp only [Act.put, List.setIfInBounds_toArray, List.set_cons_zero, List.set_cons_succ])
    generalize hz5 : (⟨#[98, 97, 99, 107]⟩ ++ ⟨#[32]⟩ : Str) = z5
    have hs5 : z5.size ≤ 7 := by rw [← hz5, bsz_app]; show 4 + 1 ≤ 7; omega
    have HZ5 := Lib.hid hz5; clear hz5
    refine wpAnyH_ready (rs := [9]) (by kernel_rfl) (by simp) ?_
    refine AllReadyH.cons rfl (fun K hK => ?_) AllReadyH.nil
    go_simp
    rw [if_neg (by omega)]
    (try simp only [Oper.upon])
    refine hK.out _ _ hH (fun _ => ?_)
    clear hK K
    (try simp only [Act.put, List.setIfInBounds_toArray, List.set_cons_zero, List.set_cons_succ])
    refine wpAnyH_takeD (i := 10) (d := some 4) (v := ?v24) rfl (by rfl) (by kernel_rfl) (by kernel_rfl) (by kernel_rfl) (fun _ _ _ h => h) (Or.inl ⟨by rfl, ?y24⟩) hH ?r24
    case y24 => (intro w' hS; (try dsimp only at hS); go_simp; (try with_reducible rfl))
    (try simp only [Act.put, List.setIfInBounds_toArray, List.set_cons_zero, List.set_cons_succ])
    refine wpAnyH_done (by kernel_rfl) ?_ _
    go_wp2_with fail
    go_ret
    exact ⟨ret_s (by rw [HE.out]; unfold rtS; rw [HND.out, HE1.out, HZ5.out]), HB1.out.trans ((by repeat (first | with_reducible exact hbw | with_reducible exact Below.refl _ _ | apply Below.drew | apply Below.al_) : Below w1.heap.size w1 _).mono HB1.out.size)⟩
  by_cases h2 : st = 2
  · subst h2
    have HE2 := Lib.hid (show stateS 2 = ⟨#[101, 110, 100, 101, 100]⟩ from rfl)
    clear hst
    go_wp2_with fail
    refine wp_region_held_drew (S := fun w' => (w'.cell? ⟨w.heap.size + 1, 0, none⟩ = some (.int .i64 2) ∧ w'.cell? ⟨w.heap.size + 1, 1, none⟩ = some (.slice B m d)) ∧ Below w1.heap.size w1 w') (by kernel_rfl) (HSB.out _ (Below.refl _ _).drew) (fun hH => ?_)
    refine wpAnyH_takeD (i := 1) (d := some 10) (v := ?v25) rfl (by rfl) (by kernel_rfl) (by kernel_rfl) (by kernel_rfl) (fun _ _ _ h => h) (Or.inl ⟨by rfl, ?y25⟩) hH ?r25
    case y25 => (intro w' hS; (try dsimp only at hS); go_simp; (try with_reducible rfl))
    (try simp only [Act.put, List.setIfInBounds_toArray, List.set_cons_zero, List.set_cons_succ])
    refine wpAnyH_takeD (i := 2) (d := some 11) (v := ?v26) rfl (by rfl) (by kernel_rfl) (by kernel_rfl) (by kernel_rfl) (fun _ _ _ h => h) (Or.inl ⟨by rfl, ?y26⟩) hH ?r26
    case y26 => (intro w' hS; (try dsimp only at hS); go_simp; (try with_reducible rfl))
    (try simp only [Act.put, List.setIfInBounds_toArray, List.set_cons_zero, List.set_cons_succ])
    refine wpAnyH_takeD (i := 6) (d := some 15) (v := ?v27) rfl (by rfl) (by kernel_rfl) (by kernel_rfl) (by kernel_rfl) (fun _ _ _ h => h) (Or.inl ⟨by rfl, ?y27⟩) hH ?r27
    case y27 => (intro w' hS; (try dsimp only at hS); go_simp; (try with_reducible rfl))
    (try simp only [Act.put, List.setIfInBounds_toArray, List.set_cons_zero, List.set_cons_succ])
    refine wpAnyH_takeD (i := 7) (d := some 16) (v := ?v28) rfl (by rfl) (by kernel_rfl) (by kernel_rfl) (by kernel_rfl) (fun _ _ _ h => h) (Or.inl ⟨by rfl, ?y28⟩) hH ?r28
    case y28 => (intro w' hS; (try dsimp only at hS); go_simp; (try with_reducible rfl))
    (try simp only [Act.put, List.setIfInBounds_toArray, List.set_cons_zero, List.set_cons_succ])
    refine wpAnyH_ready (rs := [0, 8]) (by kernel_rfl) (by simp) ?_
    refine AllReadyH.cons rfl (fun K hK => ?_) ?_
    · go_simp
      refine hK.out _ _ (HSB.out _ (Below.al_ (Below.refl _ _).drew _)) (fun hH2 => ?_)
      clear hK K hH
      have hH := And.intro hH2 (blk_cl (w := w1.drew.alloc (.cells #[.string ⟨#[103, 111, 101, 115]⟩, .string ⟨#[98, 97, 99, 107]⟩, .string ⟨#[101, 110, 100, 101, 100]⟩, .string ⟨#[117, 110, 100, 111, 110, 101]⟩] 9)) (b := w1.heap.size) (k := 2) (heap_new rfl) rfl).1
      refine wpAnyH_mono (S' := fun w' => ((w'.cell? ⟨w.heap.size + 1, 0, none⟩ = some (.int .i64 2) ∧ w'.cell? ⟨w.heap.size + 1, 1, none⟩ = some (.slice B m d)) ∧ Below w1.heap.size w1 w') ∧ w'.cell? ⟨w1.heap.size, 2, none⟩ = some (.string ⟨#[101, 110, 100, 101, 100]⟩)) (fun w h => h.1) _ _ _ _ ?_
      (try simp only [Act.put, List.setIfInBounds_toArray, List.set_cons_zero, List.set_cons_succ])
      refine wpAnyH_takeD (i := 3) (d := some 12) (v := ?v29) rfl (by rfl) (by kernel_rfl) (by kernel_rfl) (by kernel_rfl) (fun _ _ _ h => h) (Or.inl ⟨by rfl, ?y29⟩) hH ?r29
      case y29 => (intro w' hS; (try dsimp only at hS); go_simp; (try with_reducible rfl))
      (try simp only [Act.put, List.setIfInBounds_toArray, List.set_cons_zero, List.set_cons_succ])
      refine wpAnyH_takeD (i := 4) (d := some 13) (v := ?v30) rfl (by rfl) (by kernel_rfl) (by kernel_rfl) (by kernel_rfl) (fun _ _ _ h => h) (Or.inl ⟨by rfl, ?y30⟩) hH ?r30
      case y30 => (intro w' hS; (try dsimp only at hS); go_simp; (try with_reducible rfl))
      (try simp only [Act.put, List.setIfInBounds_toArray, List.set_cons_zero, List.set_cons_succ])
      refine wpAnyH_takeD (i := 5) (d := some 14) (v := ?v31) rfl (by rfl) (by kernel_rfl) (by kernel_rfl) (by kernel_rfl) (fun _ _ _ h => h) (Or.inl ⟨by rfl, ?y31⟩) hH ?r31
      case y31 => (intro w' hS; (try dsimp only at hS); go_simp; (try with_reducible rfl))
      (try simp only [Act.put, List.setIfInBounds_toArray, List.set_cons_zero, List.set_cons_succ])
      generalize hz5 : (⟨#[101, 110, 100, 101, 100]⟩ ++ ⟨#[32]⟩ : Str) = z5
      have hs5 : z5.size ≤ 7 := by rw [← hz5, bsz_app]; show 5 + 1 ≤ 7; omega
      have HZ5 := Lib.hid hz5; clear hz5
      refine wpAnyH_ready (rs := [8]) (by kernel_rfl) (by simp) ?_
      refine AllReadyH.cons rfl (fun K hK => ?_) AllReadyH.nil
      go_wp2_with fail
      go_at_call 65
      refine (HNT.out _ (by repeat (first | with_reducible exact hbw | with_reducible exact Below.refl _ _ | apply Below.drew | apply Below.al_))).mono ?_
      rintro e w2 ⟨rfl, hbw, hb2⟩
      go_wp2_with fail
      refine hK.out _ _ ⟨HSB.out _ hbw, (hb2.cell (p := ⟨w1.heap.size, 2, none⟩) (by simp)).trans hH.2⟩ (fun hH3 => ?_)
      clear hK K hH
      have hH := hH3
      (try simp only [Act.put, List.setIfInBounds_toArray, List.set_cons_zero, List.set_cons_succ])
      refine wpAnyH_ready (rs := [9]) (by kernel_rfl) (by simp) ?_
      refine AllReadyH.cons rfl (fun K hK => ?_) AllReadyH.nil
      go_simp
      rw [if_neg (by omega)]
      (try simp only [Oper.upon])
      refine hK.out _ _ hH (fun _ => ?_)
      clear hK K
      (try simp only [Act.put, List.setIfInBounds_toArray, List.set_cons_zero, List.set_cons_succ])
      refine wpAnyH_takeD (i := 10) (d := some 4) (v := ?v32) rfl (by rfl) (by kernel_rfl) (by kernel_rfl) (by kernel_rfl) (fun _ _ _ h => h) (Or.inl ⟨by rfl, ?y32⟩) hH ?r32
      case y32 => (intro w' hS; (try dsimp only at hS); go_simp; (try with_reducible rfl))
      (try simp only [Act.put, List.setIfInBounds_toArray, List.set_cons_zero, List.set_cons_succ])
      refine wpAnyH_done (by kernel_rfl) ?_ _
      go_wp2_with fail
      go_ret
      exact ⟨ret_s (by rw [HE.out]; unfold rtS; rw [HND.out, HE2.out, HZ5.out]), HB1.out.trans ((by repeat (first | with_reducible exact hbw | with_reducible exact Below.refl _ _ | apply Below.drew | apply Below.al_) : Below w1.heap.size w1 _).mono HB1.out.size)⟩
    refine AllReadyH.cons rfl (fun K hK => ?_) AllReadyH.nil
    go_wp2_with fail
    go_at_call 65
    refine (HNT.out _ (by repeat (first | with_reducible exact hbw | with_reducible exact Below.refl _ _ | apply Below.drew | apply Below.al_))).mono ?_
    rintro e w2 ⟨rfl, hbw, hb2⟩
    go_wp2_with fail
    refine hK.out _ _ (HSB.out _ hbw) (fun hH2 => ?_)
    clear hK K hH
    have hH := hH2
    (try simp only [Act.put, List.setIfInBounds_toArray, List.set_cons_zero, List.set_cons_succ])
    refine wpAnyH_ready (rs := [0]) (by kernel_rfl) (by simp) ?_
    refine AllReadyH.cons rfl (fun K hK => ?_) AllReadyH.nil
    go_simp
    refine hK.out _ _ (HSB.out _ (Below.al_ hbw _)) (fun hH2 => ?_)
    clear hK K hH
    have hbx := hbw
    have hH := And.intro hH2 (blk_cl (w := w2.alloc (.cells #[.string ⟨#[103, 111, 101, 115]⟩, .string ⟨#[98, 97, 99, 107]⟩, .string ⟨#[101, 110, 100, 101, 100]⟩, .string ⟨#[117, 110, 100, 111, 110, 101]⟩] 9)) (b := w2.heap.size) (k := 2) (heap_new rfl) rfl).1
    refine wpAnyH_mono (S' := fun w' => ((w'.cell? ⟨w.heap.size + 1, 0, none⟩ = some (.int .i64 2) ∧ w'.cell? ⟨w.heap.size + 1, 1, none⟩ = some (.slice B m d)) ∧ Below w1.heap.size w1 w') ∧ w'.cell? ⟨w2.heap.size, 2, none⟩ = some (.string ⟨#[101, 110, 100, 101, 100]⟩)) (fun w h => h.1) _ _ _ _ ?_
    (try simp only [Act.put, List.setIfInBounds_toArray, List.set_cons_zero, List.set_cons_succ])
    refine wpAnyH_takeD (i := 3) (d := some 12) (v := ?v33) rfl (by rfl) (by kernel_rfl) (by kernel_rfl) (by kernel_rfl) (fun _ _ _ h => h) (Or.inl ⟨by rfl, ?y33⟩) hH ?r33
    case y33 => (intro w' hS; (try dsimp only at hS); go_simp; (try with_reducible rfl))
    (try simp only [Act.put, List.setIfInBounds_toArray, List.set_cons_zero, List.set_cons_succ])
    refine wpAnyH_takeD (i := 4) (d := some 13) (v := ?v34) rfl (by rfl) (by kernel_rfl) (by kernel_rfl) (by kernel_rfl) (fun _ _ _ h => h) (Or.inl ⟨by rfl, ?y34⟩) hH ?r34
    case y34 => (intro w' hS; (try dsimp only at hS); go_simp; (try with_reducible rfl))
    (try simp only [Act.put, List.setIfInBounds_toArray, List.set_cons_zero, List.set_cons_succ])
    refine wpAnyH_takeD (i := 5) (d := some 14) (v := ?v35) rfl (by rfl) (by kernel_rfl) (by kernel_rfl) (by kernel_rfl) (fun _ _ _ h => h) (Or.inl ⟨by rfl, ?y35⟩) hH ?r35
    case y35 => (intro w' hS; (try dsimp only at hS); go_simp; (try with_reducible rfl))
    (try simp only [Act.put, List.setIfInBounds_toArray, List.set_cons_zero, List.set_cons_succ])
    generalize hz5 : (⟨#[101, 110, 100, 101, 100]⟩ ++ ⟨#[32]⟩ : Str) = z5
    have hs5 : z5.size ≤ 7 := by rw [← hz5, bsz_app]; show 5 + 1 ≤ 7; omega
    have HZ5 := Lib.hid hz5; clear hz5
    refine wpAnyH_ready (rs := [9]) (by kernel_rfl) (by simp) ?_
    refine AllReadyH.cons rfl (fun K hK => ?_) AllReadyH.nil
    go_simp
    rw [if_neg (by omega)]
    (try simp only [Oper.upon])
    refine hK.out _ _ hH (fun _ => ?_)
    clear hK K
    (try simp only [Act.put, List.setIfInBounds_toArray, List.set_cons_zero, List.set_cons_succ])
    refine wpAnyH_takeD (i := 10) (d := some 4) (v := ?v36) rfl (by rfl) (by kernel_rfl) (by kernel_rfl) (by kernel_rfl) (fun _ _ _ h => h) (Or.inl ⟨by rfl, ?y36⟩) hH ?r36
    case y36 => (intro w' hS; (try dsimp only at hS); go_simp; (try with_reducible rfl))
    (try simp only [Act.put, List.setIfInBounds_toArray, List.set_cons_zero, List.set_cons_succ])
    refine wpAnyH_done (by kernel_rfl) ?_ _
    go_wp2_with fail
    go_ret
    exact ⟨ret_s (by rw [HE.out]; unfold rtS; rw [HND.out, HE2.out, HZ5.out]), HB1.out.trans ((by repeat (first | with_reducible exact hbw | with_reducible exact Below.refl _ _ | apply Below.drew | apply Below.al_) : Below w1.heap.size w1 _).mono HB1.out.size)⟩
  by_cases h3 : st = 3
  · subst h3
    have HE3 := Lib.hid (show stateS 3 = ⟨#[117, 110, 100, 111, 110, 101]⟩ from rfl)
    clear hst
    go_wp2_with fail
    refine wp_region_held_drew (S := fun w' => (w'.cell? ⟨w.heap.size + 1, 0, none⟩ = some (.int .i64 3) ∧ w'.cell? ⟨w.heap.size + 1, 1, none⟩ = some (.slice B m d)) ∧ Below w1.heap.size w1 w') (by kernel_rfl) (HSB.out _ (Below.refl _ _).drew) (fun hH => ?_)
    refine wpAnyH_takeD (i := 1) (d := some 10) (v := ?v37) rfl (by rfl) (by kernel_rfl) (by kernel_rfl) (by kernel_rfl) (fun _ _ _ h => h) (Or.inl ⟨by rfl, ?y37⟩) hH ?r37
    case y37 => (intro w' hS; (try dsimp only at hS); go_simp; (try with_reducible rfl))
    (try simp only [Act.put, List.setIfInBounds_toArray, List.set_cons_zero, List.set_cons_succ])
    refine wpAnyH_takeD (i := 2) (d := some 11) (v := ?v38) rfl (by rfl) (by kernel_rfl) (by kernel_rfl) (by kernel_rfl) (fun _ _ _ h => h) (Or.inl ⟨by rfl, ?y38⟩) hH ?r38
    case y38 => (intro w' hS; (try dsimp only at hS); go_simp; (try with_reducible rfl))
    (try simp only [Act.put, List.setIfInBounds_toArray, List.set_cons_zero, List.set_cons_succ])
    refine wpAnyH_takeD (i := 6) (d := some 15) (v := ?v39) rfl (by rfl) (by kernel_rfl) (by kernel_rfl) (by kernel_rfl) (fun _ _ _ h => h) (Or.inl ⟨by rfl, ?y39⟩) hH ?r39
    case y39 => (intro w' hS; (try dsimp only at hS); go_simp; (try with_reducible rfl))
    (try simp only [Act.put, List.setIfInBounds_toArray, List.set_cons_zero, List.set_cons_succ])
    refine wpAnyH_takeD (i := 7) (d := some 16) (v := ?v40) rfl (by rfl) (by kernel_rfl) (by kernel_rfl) (by kernel_rfl) (fun _ _ _ h => h) (Or.inl ⟨by rfl, ?y40⟩) hH ?r40
    case y40 => (intro w' hS; (try dsimp only at hS); go_simp; (try with_reducible rfl))
    (try simp only [Act.put, List.setIfInBounds_toArray, List.set_cons_zero, List.set_cons_succ])
    refine wpAnyH_ready (rs := [0, 8]) (by kernel_rfl) (by simp) ?_
    refine AllReadyH.cons rfl (fun K hK => ?_) ?_
    · go_simp
      refine hK.out _ _ (HSB.out _ (Below.al_ (Below.refl _ _).drew _)) (fun hH2 => ?_)
      clear hK K hH
      have hH := And.intro hH2 (blk_cl (w := w1.drew.alloc (.cells #[.string ⟨#[103, 111, 101, 115]⟩, .string ⟨#[98, 97, 99, 107]⟩, .string ⟨#[101, 110, 100, 101, 100]⟩, .string ⟨#[117, 110, 100, 111, 110, 101]⟩] 9)) (b := w1.heap.size) (k := 3) (heap_new rfl) rfl).1
      refine wpAnyH_mono (S' := fun w' => ((w'.cell? ⟨w.heap.size + 1, 0, none⟩ = some (.int .i64 3) ∧ w'.cell? ⟨w.heap.size + 1, 1, none⟩ = some (.slice B m d)) ∧ Below w1.heap.size w1 w') ∧ w'.cell? ⟨w1.heap.size, 3, none⟩ = some (.string ⟨#[117, 110, 100, 111, 110, 101]⟩)) (fun w h => h.1) _ _ _ _ ?_
      (try simp only [Act.put, List.setIfInBounds_toArray, List.set_cons_zero, List.set_cons_succ])
      refine wpAnyH_takeD (i := 3) (d := some 12) (v := ?v41) rfl (by rfl) (by kernel_rfl) (by kernel_rfl) (by kernel_rfl) (fun _ _ _ h => h) (Or.inl ⟨by rfl, ?y41⟩) hH ?r41
      case y41 => (intro w' hS; (try dsimp only at hS); go_simp; (try with_reducible rfl))
      (try simp only [Act.put, List.setIfInBounds_toArray, List.set_cons_zero, List.set_cons_succ])
      refine wpAnyH_takeD (i := 4) (d := some 13) (v := ?v42) rfl (by rfl) (by kernel_rfl) (by kernel_rfl) (by kernel_rfl) (fun _ _ _ h => h) (Or.inl ⟨by rfl, ?y42⟩) hH ?r42
      case y42 => (intro w' hS; (try dsimp only at hS); go_simp; (try with_reducible rfl))
      (try simp only [Act.put, List.setIfInBounds_toArray, List.set_cons_zero, List.set_cons_succ])
      refine wpAnyH_takeD (i := 5) (d := some 14) (v := ?v43) rfl (by rfl) (by kernel_rfl) (by kernel_rfl) (by kernel_rfl) (fun _ _ _ h => h) (Or.inl ⟨by rfl, ?y43⟩) hH ?r43
      case y43 => (intro w' hS; (try dsimp only at hS); go_simp; (try with_reducible rfl))
      (try simp only [Act.put, List.setIfInBounds_toArray, List.set_cons_zero, List.set_cons_succ])
      generalize hz5 : (⟨#[117, 110, 100, 111, 110, 101]⟩ ++ ⟨#[32]⟩ : Str) = z5
      have hs5 : z5.size ≤ 7 := by rw [← hz5, bsz_app]; show 6 + 1 ≤ 7; omega
      have HZ5 := Lib.hid hz5; clear hz5
      refine wpAnyH_ready (rs := [8]) (by kernel_rfl) (by simp) ?_
      refine AllReadyH.cons rfl (fun K hK => ?_) AllReadyH.nil
      go_wp2_with fail
      go_at_call 65
      refine (HNT.out _ (by repeat (first | with_reducible exact hbw | with_reducible exact Below.refl _ _ | apply Below.drew | apply Below.al_))).mono ?_
      rintro e w2 ⟨rfl, hbw, hb2⟩
      go_wp2_with fail
      refine hK.out _ _ ⟨HSB.out _ hbw, (hb2.cell (p := ⟨w1.heap.size, 3, none⟩) (by simp)).trans hH.2⟩ (fun hH3 => ?_)
      clear hK K hH
      have hH := hH3
      (try simp only [Act.put, List.setIfInBounds_toArray, List.set_cons_zero, List.set_cons_succ])
      refine wpAnyH_ready (rs := [9]) (by kernel_rfl) (by simp) ?_
      refine AllReadyH.cons rfl (fun K hK => ?_) AllReadyH.nil
      go_simp
      rw [if_neg (by omega)]
      (try simp only [Oper.upon])
      refine hK.out _ _ hH (fun _ => ?_)
      clear hK K
      (try simp only [Act.put, List.setIfInBounds_toArray, List.set_cons_zero, List.set_cons_succ])
      refine wpAnyH_takeD (i := 10) (d := some 4) (v := ?v44) rfl (by rfl) (by kernel_rfl) (by kernel_rfl) (by kernel_rfl) (fun _ _ _ h => h) (Or.inl ⟨by rfl, ?y44⟩) hH ?r44
      case y44 => (intro w' hS; (try dsimp only at hS); go_simp; (try with_reducible rfl))
      (try simp only [Act.put, List.setIfInBounds_toArray, List.set_cons_zero, List.set_cons_succ])
      refine wpAnyH_done (by kernel_rfl) ?_ _
      go_wp2_with fail
      go_ret
      exact ⟨ret_s (by rw [HE.out]; unfold rtS; rw [HND.out, HE3.out, HZ5.out]), HB1.out.trans ((by repeat (first | with_reducible exact hbw | with_reducible exact Below.refl _ _ | apply Below.drew | apply Below.al_) : Below w1.heap.size w1 _).mono HB1.out.size)⟩
    refine AllReadyH.cons rfl (fun K hK => ?_) AllReadyH.nil
    go_wp2_with fail
    go_at_call 65
    refine (HNT.out _ (by repeat (first | with_reducible exact hbw | with_reducible exact Below.refl _ _ | apply Below.drew | apply Below.al_))).mono ?_
    rintro e w2 ⟨rfl, hbw, hb2⟩
    go_wp2_with fail
    refine hK.out _ _ (HSB.out _ hbw) (fun hH2 => ?_)
    clear hK K hH
    have hH := hH2
    (try simp only [Act.put, List.setIfInBounds_toArray, List.set_cons_zero, List.set_cons_succ])
    refine wpAnyH_ready (rs := [0]) (by kernel_rfl) (by simp) ?_
    refine AllReadyH.cons rfl (fun K hK => ?_) AllReadyH.nil
    go_simp
    refine hK.out _ _ (HSB.out _ (Below.al_ hbw _)) (fun hH2 => ?_)
    clear hK K hH
    have hbx := hbw
    have hH := And.intro hH2 (blk_cl (w := w2.alloc (.cells #[.string ⟨#[103, 111, 101, 115]⟩, .string ⟨#[98, 97, 99, 107]⟩, .string ⟨#[101, 110, 100, 101, 100]⟩, .string ⟨#[117, 110, 100, 111, 110, 101]⟩] 9)) (b := w2.heap.size) (k := 3) (heap_new rfl) rfl).1
    refine wpAnyH_mono (S' := fun w' => ((w'.cell? ⟨w.heap.size + 1, 0, none⟩ = some (.int .i64 3) ∧ w'.cell? ⟨w.heap.size + 1, 1, none⟩ = some (.slice B m d)) ∧ Below w1.heap.size w1 w') ∧ w'.cell? ⟨w2.heap.size, 3, none⟩ = some (.string ⟨#[117, 110, 100, 111, 110, 101]⟩)) (fun w h => h.1) _ _ _ _ ?_
    (try simp only [Act.put, List.setIfInBounds_toArray, List.set_cons_zero, List.set_cons_succ])
    refine wpAnyH_takeD (i := 3) (d := some 12) (v := ?v45) rfl (by rfl) (by kernel_rfl) (by kernel_rfl) (by kernel_rfl) (fun _ _ _ h => h) (Or.inl ⟨by rfl, ?y45⟩) hH ?r45
    case y45 => (intro w' hS; (try dsimp only at hS); go_simp; (try with_reducible rfl))
    (try simp only [Act.put, List.setIfInBounds_toArray, List.set_cons_zero, List.set_cons_succ])
    refine wpAnyH_takeD (i := 4) (d := some 13) (v := ?v46) rfl (by rfl) (by kernel_rfl) (by kernel_rfl) (by kernel_rfl) (fun _ _ _ h => h) (Or.inl ⟨by rfl, ?y46⟩) hH ?r46
    case y46 => (intro w' hS; (try dsimp only at hS); go_simp; (try with_reducible rfl))
    (try simp only [Act.put, List.setIfInBounds_toArray, List.set_cons_zero, List.set_cons_succ])
    refine wpAnyH_takeD (i := 5) (d := some 14) (v := ?v47) rfl (by rfl) (by kernel_rfl) (by kernel_rfl) (by kernel_rfl) (fun _ _ _ h => h) (Or.inl ⟨by rfl, ?y47⟩) hH ?r47
    case y47 => (intro w' hS; (try dsimp only at hS); go_simp; (try with_reducible rfl))
    (try simp only [Act.put, List.setIfInBounds_toArray, List.set_cons_zero, List.set_cons_succ])
    generalize hz5 : (⟨#[117, 110, 100, 111, 110, 101]⟩ ++ ⟨#[32]⟩ : Str) = z5
    have hs5 : z5.size ≤ 7 := by rw [← hz5, bsz_app]; show 6 + 1 ≤ 7; omega
    have HZ5 := Lib.hid hz5; clear hz5
    refine wpAnyH_ready (rs := [9]) (by kernel_rfl) (by simp) ?_
    refine AllReadyH.cons rfl (fun K hK => ?_) AllReadyH.nil
    go_simp
    rw [if_neg (by omega)]
    (try simp only [Oper.upon])
    refine hK.out _ _ hH (fun _ => ?_)
    clear hK K
    (try simp only [Act.put, List.setIfInBounds_toArray, List.set_cons_zero, List.set_cons_succ])
    refine wpAnyH_takeD (i := 10) (d := some 4) (v := ?v48) rfl (by rfl) (by kernel_rfl) (by kernel_rfl) (by kernel_rfl) (fun _ _ _ h => h) (Or.inl ⟨by rfl, ?y48⟩) hH ?r48
    case y48 => (intro w' hS; (try dsimp only at hS); go_simp; (try with_reducible rfl))
    (try simp only [Act.put, List.setIfInBounds_toArray, List.set_cons_zero, List.set_cons_succ])
    refine wpAnyH_done (by kernel_rfl) ?_ _
    go_wp2_with fail
    go_ret
    exact ⟨ret_s (by rw [HE.out]; unfold rtS; rw [HND.out, HE3.out, HZ5.out]), HB1.out.trans ((by repeat (first | with_reducible exact hbw | with_reducible exact Below.refl _ _ | apply Below.drew | apply Below.al_) : Below w1.heap.size w1 _).mono HB1.out.size)⟩
  exfalso
  omega
end Go.Proofs.Ythcpjkhijjkolaa

/- Reports: how many cases can do a step next, the reference's side. -/
namespace Go.Proofs.Ythcpjkhijjkolaa
open Go.RowKit

def canN (f : Flow) (cs : List Case) (x : Str) : Nat := (cs.filter fun c => canB f c.st c.done x).length
theorem canN_yes {f : Flow} {cs : List Case} {k : Nat} {x : Str} (hk : k < cs.length) (h : canB f (nth cs k).st (nth cs k).done x = true) : canN f (cs.take (k + 1)) x = canN f (cs.take k) x + 1 := by
  unfold canN; rw [take_nth hk, List.filter_append, List.length_append]; simp [h]
theorem canN_no {f : Flow} {cs : List Case} {k : Nat} {x : Str} (hk : k < cs.length) (h : canB f (nth cs k).st (nth cs k).done x = false) : canN f (cs.take (k + 1)) x = canN f (cs.take k) x := by
  unfold canN; rw [take_nth hk, List.filter_append, List.length_append]; simp [h]
theorem canN_le (f : Flow) (cs : List Case) (x : Str) : canN f cs x ≤ cs.length := List.length_filter_le _ _

set_option maxRecDepth 100000 in
set_option maxHeartbeats 1000000 in
theorem l33Can_any (A B : Option Addr) (n c m d : Nat) (f : Flow) (cs : List Case) (x : Str) (lo lo' : Nat) (w : World) (hr : RStep w lo A n f.steps) (hok : okSteps f.steps) (hd : RCase w lo' B m cs) (hcs : okCases cs) :
    Calls Try.prog 79 #[.agg #[.int .i64 f.ver, .slice A n c], .slice B m d, .string x] w fun e w' => e = .returned (.int .i64 ((canN f cs x : Nat) : Int)) ∧ Below w.heap.size w w' := by
  have HL := Lib.hid hd.1
  have hm : m ≤ 1048576 := by have := hcs.1; rw [hd.1] at this; exact this
  have HC := Lib.hid hcs; clear hcs
  have HB0 := Lib.hid ((Below.refl w.heap.size w).alloc (Nat.le_refl _) (.cells #[.int .i64 f.ver, .slice A n c] 33))
  have HD0 := Lib.hid (hd.alloc (.cells #[.int .i64 f.ver, .slice A n c] 33)); clear hd
  have HR0 := Lib.hid (hr.alloc (.cells #[.int .i64 f.ver, .slice A n c] 33)); clear hr
  have HX0 := Lib.hid (heap_new (w := w) (o := .cells #[.int .i64 f.ver, .slice A n c] 33) rfl)
  go_enter Try.func79, Try.ntmps79
  go_wp2_with fail
  generalize ew0 : w.alloc (.cells #[.int .i64 f.ver, .slice A n c] 33) = w0 at *
  clear ew0
  go_loopw [7, 8] (fun o i wr => ∃ k : Nat, k ≤ m ∧ i = .int .i64 (k : Int) ∧ o = .int .i64 ((canN f (cs.take k) x : Nat) : Int) ∧ Below w0.heap.size w0 wr) (fun _ i _ => m - (intOf i).toNat)
  case atStart => exact ⟨0, Nat.zero_le _, rfl, by simp [canN], Below.refl _ _⟩
  case round =>
    obtain ⟨k, hk, rfl, rfl, hbw⟩ := hrel
    have HBW := Lib.hid hbw; clear hbw
    have hz := canN_le f (cs.take k) x
    have hz2 : canN f (cs.take k) x ≤ 1048576 := by rw [List.length_take] at hz; omega
    clear hz
    by_cases hlt : k < m
    · have hkl : k < cs.length := by rw [HL.out]; exact hlt
      have HXW := Lib.hid ((HBW.out.block _ (heap_lt HX0.out)).trans HX0.out)
      obtain ⟨b, off, rfl, ⟨_, hb2⟩, hc⟩ := RCase.at_ (HD0.out.below HBW.out) hlt
      obtain ⟨A', n', c', ⟨d1, d2, d3⟩, hdr, hnc, _⟩ := hc k hlt
      clear hc
      have hn' : n' ≤ 1048576 := by rw [← hdr.1]; exact (HC.out.2 k hkl).2
      have HCAN := Lib.hid (fun y : Bl wr => canS_any A A' n c n' c' f (nth cs k).st (nth cs k).done x _ _ y.wd ((HR0.out.below HBW.out).below y.below) hok (hdr.below y.below) hn' hnc)
      clear hdr
      have X0 : ∀ y : Bl wr, y.wd.cell? ⟨w.heap.size, 0, none⟩ = some (.int .i64 f.ver) := fun y => (blk_cl (k := 0) ((y.below.block _ (heap_lt HXW.out)).trans HXW.out) rfl).1
      have X1 : ∀ y : Bl wr, y.wd.cell? ⟨w.heap.size, 1, none⟩ = some (.slice A n c) := fun y => (blk_cl (k := 1) ((y.below.block _ (heap_lt HXW.out)).trans HXW.out) rfl).1
      have Y0 : ∀ y : Bl wr, y.wd.cell? ⟨b, off + k * 3 + 1, none⟩ = some (.int .i64 (nth cs k).st) := fun y => (y.below.cell (p := ⟨b, off + k * 3 + 1, none⟩) hb2).trans d2
      have Y1 : ∀ y : Bl wr, y.wd.cell? ⟨b, off + k * 3 + 2, none⟩ = some (.slice A' n' c') := fun y => (y.below.cell (p := ⟨b, off + k * 3 + 2, none⟩) hb2).trans d3
      clear d1 d2 d3
      cases hcan : canB f (nth cs k).st (nth cs k).done x
      · have HT := Lib.hid (canN_no hkl hcan)
        rw [hcan] at HCAN
        clear hcan
        go_wp2_with fail
        refine region_bl (by kernel_rfl) (by kernel_rfl) ?_
        repeat (go_big_quiet_step ((go_at_call 115; exact q_bl (HCAN.out _))))
        refine wpQuiet_nil ?_
        intro _ hw'
        obtain ⟨y, rfl⟩ := hw'
        have HY := Lib.hid (HBW.out.trans (y.below.mono HBW.out.size))
        clear X0 X1 Y0 Y1 HCAN
        go_wp2_with fail
        go_roundw
        case rel => exact ⟨k + 1, by omega, by go_num, by rw [HT.out], HY.out⟩
        case measure => simp [intOf]; omega
      · have HT := Lib.hid (canN_yes hkl hcan)
        rw [hcan] at HCAN
        clear hcan
        go_wp2_with fail
        refine region_bl (by kernel_rfl) (by kernel_rfl) ?_
        repeat (go_big_quiet_step ((go_at_call 115; exact q_bl (HCAN.out _))))
        refine wpQuiet_nil ?_
        intro _ hw'
        obtain ⟨y, rfl⟩ := hw'
        have HY := Lib.hid (HBW.out.trans (y.below.mono HBW.out.size))
        clear X0 X1 Y0 Y1 HCAN
        go_wp2_with fail
        go_roundw
        case rel => exact ⟨k + 1, by omega, by go_num, by rw [HT.out]; go_num, HY.out⟩
        case measure => simp [intOf]; omega
    · have HE : Hid (canN f (cs.take k) x = canN f cs x) := by show _ = _; rw [List.take_of_length_le (by rw [HL.out]; omega)]
      go_wp2_with fail
      go_ret
      exact ⟨ret_i (by rw [HE.out]), HB0.out.trans (HBW.out.mono HB0.out.size)⟩
end Go.Proofs.Ythcpjkhijjkolaa

/- Reports: what most cases can do next, the reference's side. -/
namespace Go.Proofs.Ythcpjkhijjkolaa
open Go.RowKit

/-- The step that most cases can do next, among the first k. -/
def slowTo (f : Flow) (cs : List Case) : Nat → Nat × Str
  | 0 => (0, ⟨#[]⟩)
  | k + 1 => if (slowTo f cs k).1 < canN f cs (nth f.steps k).name then (canN f cs (nth f.steps k).name, (nth f.steps k).name) else slowTo f cs k
def slowR (f : Flow) (cs : List Case) : Str := if poolB f cs = true then (slowTo f cs f.steps.length).2 else ⟨#[]⟩
theorem slowTo_le (f : Flow) (cs : List Case) : ∀ k, (slowTo f cs k).1 ≤ cs.length
  | 0 => Nat.zero_le _
  | k + 1 => by
    show (if _ then _ else _ : Nat × Str).1 ≤ _
    split
    · exact canN_le _ _ _
    · exact slowTo_le f cs k
theorem slowTo_yes {f : Flow} {cs : List Case} {k : Nat} (h : (slowTo f cs k).1 < canN f cs (nth f.steps k).name) : slowTo f cs (k + 1) = (canN f cs (nth f.steps k).name, (nth f.steps k).name) := if_pos h
theorem slowTo_no {f : Flow} {cs : List Case} {k : Nat} (h : ¬ (slowTo f cs k).1 < canN f cs (nth f.steps k).name) : slowTo f cs (k + 1) = slowTo f cs k := if_neg h

set_option maxRecDepth 100000 in
set_option maxHeartbeats 1000000 in
theorem slowS_any (A B : Option Addr) (n c m d : Nat) (f : Flow) (cs : List Case) (lo lo' : Nat) (w : World) (hr : RStep w lo A n f.steps) (hok : okSteps f.steps) (hd : RCase w lo' B m cs) (hcs : okCases cs) :
    Calls Try.prog 27 #[.agg #[.int .i64 f.ver, .slice A n c], .slice B m d] w fun e w' => e = .returned (.string (slowR f cs)) ∧ Below w.heap.size w w' := by
  have HLn := Lib.hid hr.1
  have hn : n ≤ 1048576 := by have := hok.1; rw [hr.1] at this; exact this
  have hm : cs.length ≤ 1048576 := hcs.1
  have HB0 := Lib.hid ((Below.refl w.heap.size w).alloc (Nat.le_refl _) (.cells #[.int .i64 f.ver, .slice A n c] 33))
  have HD0 := Lib.hid (hd.alloc (.cells #[.int .i64 f.ver, .slice A n c] 33)); clear hd
  have HR0 := Lib.hid (hr.alloc (.cells #[.int .i64 f.ver, .slice A n c] 33)); clear hr
  have HX0 := Lib.hid (heap_new (w := w) (o := .cells #[.int .i64 f.ver, .slice A n c] 33) rfl)
  go_enter Try.func27, Try.ntmps27
  go_wp2_with fail
  generalize ew0 : w.alloc (.cells #[.int .i64 f.ver, .slice A n c] 33) = w0 at *
  clear ew0
  go_loopw [5, 6, 7] (fun o q i wr => ∃ k : Nat, k ≤ n ∧ i = .int .i64 (k : Int) ∧ (k = 0 ∨ poolB f cs = true) ∧ o = .string (slowTo f cs k).2 ∧ q = .int .i64 (((slowTo f cs k).1 : Nat) : Int) ∧ Below w0.heap.size w0 wr) (fun _ _ i _ => n - (intOf i).toNat)
  case atStart => exact ⟨0, Nat.zero_le _, rfl, .inl rfl, rfl, rfl, Below.refl _ _⟩
  case round =>
    obtain ⟨k, hk, rfl, hkp, rfl, rfl, hbw⟩ := hrel
    have HKP := Lib.hid hkp; clear hkp
    have HBW := Lib.hid hbw; clear hbw
    have hq := slowTo_le f cs k
    have HXW := Lib.hid ((HBW.out.block _ (heap_lt HX0.out)).trans HX0.out)
    have x0 := (blk_cl (k := 0) HXW.out rfl).1
    have x1 := (blk_cl (k := 1) HXW.out rfl).1
    by_cases hlt : k < n
    · go_wp2_with fail
      refine (poolS_any _ _ _ _ _ _ f cs _ _ _ (HR0.out.below HBW.out) hok (HD0.out.below HBW.out) hcs).mono ?_
      rintro e w1 ⟨rfl, hb1⟩
      have HB1 := Lib.hid (HBW.out.trans (hb1.mono HBW.out.size))
      clear hb1 x0 x1
      cases hp : poolB f cs
      · have HE : Hid ((slowTo f cs k).2 = slowR f cs) := by
          have h0 : k = 0 := by
            rcases HKP.out with h | h
            · exact h
            · rw [hp] at h; cases h
          subst h0
          show _ = _
          unfold slowR
          rw [hp]
          rfl
        clear hp
        go_wp2_with fail
        go_ret
        exact ⟨ret_s HE.out, HB0.out.trans (HB1.out.mono HB0.out.size)⟩
      · have HP := Lib.hid hp; clear hp
        have HX1 := Lib.hid ((HB1.out.block _ (heap_lt HX0.out)).trans HX0.out)
        obtain ⟨b, off, rfl, ⟨_, hb2⟩, hc⟩ := RStep.at_ (HR0.out.below HB1.out) hlt
        obtain ⟨_, _, _, ⟨d1, _, _⟩, _⟩ := hc k hlt
        clear hc
        have HCAN := Lib.hid (fun y : Bl w1 => l33Can_any (some ⟨b, off, none⟩) B n c m d f cs (nth f.steps k).name _ _ y.wd ((HR0.out.below HB1.out).below y.below) hok ((HD0.out.below HB1.out).below y.below) hcs)
        have X0 : ∀ y : Bl w1, y.wd.cell? ⟨w.heap.size, 0, none⟩ = some (.int .i64 f.ver) := fun y => (blk_cl (k := 0) ((y.below.block _ (heap_lt HX1.out)).trans HX1.out) rfl).1
        have X1 : ∀ y : Bl w1, y.wd.cell? ⟨w.heap.size, 1, none⟩ = some (.slice (some ⟨b, off, none⟩) n c) := fun y => (blk_cl (k := 1) ((y.below.block _ (heap_lt HX1.out)).trans HX1.out) rfl).1
        have Y0 : ∀ y : Bl w1, y.wd.cell? ⟨b, off + k * 3, none⟩ = some (.string (nth f.steps k).name) := fun y => (y.below.cell (p := ⟨b, off + k * 3, none⟩) hb2).trans d1
        have hz := canN_le f cs (nth f.steps k).name
        go_wp2_with fail
        refine region_bl (by kernel_rfl) (by kernel_rfl) ?_
        repeat (go_big_quiet_step ((go_at_call 79; exact q_bl (HCAN.out _))))
        refine wpQuiet_nil ?_
        intro _ hw'
        obtain ⟨y, rfl⟩ := hw'
        have HY := Lib.hid (HB1.out.trans (y.below.mono HB1.out.size))
        have x1 := X1 y
        have y0 := Y0 y
        clear X0 X1 Y0 HCAN d1
        by_cases hgt : (slowTo f cs k).1 < canN f cs (nth f.steps k).name
        · have HT := Lib.hid (slowTo_yes hgt)
          go_wp2_with fail
          go_roundw
          case rel => exact ⟨k + 1, by omega, by go_num, .inr HP.out, by rw [HT.out], by rw [HT.out], HY.out⟩
          case measure => simp [intOf]; omega
        · have HT := Lib.hid (slowTo_no hgt)
          go_wp2_with fail
          go_roundw
          case rel => exact ⟨k + 1, by omega, by go_num, .inr HP.out, by rw [HT.out], by rw [HT.out], HY.out⟩
          case measure => simp [intOf]; omega
    · have HE : Hid ((slowTo f cs k).2 = slowR f cs) := by
        show _ = _
        unfold slowR
        have hkn : k = f.steps.length := by rw [HLn.out]; omega
        split
        · rw [hkn]
        · rename_i hp
          rcases HKP.out with h | h
          · rw [h]; rfl
          · exact absurd h hp
      go_wp2_with fail
      go_ret
      exact ⟨ret_s HE.out, HB0.out.trans (HBW.out.mono HB0.out.size)⟩
end Go.Proofs.Ythcpjkhijjkolaa

/- Reports: the first of the greatest. No program in sight. -/
namespace Go.Proofs.Ythcpjkhijjkolaa

theorem slow_spec (f : Flow) (cs : List Case) : ∀ k, (∀ j, j < k → canN f cs (nth f.steps j).name ≤ (slowTo f cs k).1) ∧
    (((slowTo f cs k).1 = 0 ∧ (slowTo f cs k).2 = ⟨#[]⟩) ∨ ∃ p, p < k ∧ 0 < (slowTo f cs k).1 ∧ canN f cs (nth f.steps p).name = (slowTo f cs k).1 ∧ (∀ j, j < p → canN f cs (nth f.steps j).name ≠ (slowTo f cs k).1) ∧ (slowTo f cs k).2 = (nth f.steps p).name)
  | 0 => ⟨fun j hj => absurd hj (by omega), .inl ⟨rfl, rfl⟩⟩
  | k + 1 => by
    obtain ⟨h1, h2⟩ := slow_spec f cs k
    by_cases h : (slowTo f cs k).1 < canN f cs (nth f.steps k).name
    · rw [slowTo_yes h]
      refine ⟨fun j hj => ?_, .inr ⟨k, by omega, by show 0 < canN f cs (nth f.steps k).name; omega, rfl, fun j hj => ?_, rfl⟩⟩
      · show _ ≤ canN f cs (nth f.steps k).name
        by_cases hjk : j < k
        · have := h1 j hjk; omega
        · rw [show j = k by omega]; exact Nat.le_refl _
      · show _ ≠ canN f cs (nth f.steps k).name
        have := h1 j hj
        omega
    · rw [slowTo_no h]
      refine ⟨fun j hj => ?_, ?_⟩
      · by_cases hjk : j < k
        · exact h1 j hjk
        · rw [show j = k by omega]; omega
      · rcases h2 with h2 | ⟨p, hp, h3⟩
        · exact .inl h2
        · exact .inr ⟨p, by omega, h3⟩
end Go.Proofs.Ythcpjkhijjkolaa

/- Reports: who goes waits for something, in plain words. No program in sight. -/
namespace Go.Proofs.Ythcpjkhijjkolaa

theorem run_goes {f : Flow} {done : List Str} (h : runB f 0 done = true) : done.length < f.steps.length := by
  unfold runB at h
  simp only [if_true, Bool.and_eq_true, decide_eq_true_eq] at h
  exact h.2.2
theorem run_next {f : Flow} {done : List Str} (h : runB f 0 done = true) : ∃ x xs, rdyL f.steps done = x :: xs :=
  List.exists_cons_of_ne_nil (ready_some (flowB_iff.1 (run_flow h)).2.2.2 (run_goes h))
theorem run_can {f : Flow} {done : List Str} (h : runB f 0 done = true) : ∃ j, j < f.steps.length ∧ canB f 0 done (nth f.steps j).name = true := by
  obtain ⟨x, xs, e⟩ := run_next h
  have hx : x ∈ rdyL f.steps done := by rw [e]; exact List.mem_cons_self ..
  obtain ⟨s, hs, _, rfl⟩ := rdyL_mem.1 hx
  obtain ⟨j, hj, rfl⟩ := nth_of_mem hs
  refine ⟨j, hj, ?_⟩
  unfold canB
  rw [h, hasB_true.2 hx]; rfl
theorem flow_name {f : Flow} (h : flowB f = true) {j : Nat} (hj : j < f.steps.length) : 1 ≤ (nth f.steps j).name.size := name_size ((flowB_iff.1 h).1 j hj)
theorem canN_pos {f : Flow} {cs : List Case} {x : Str} : 0 < canN f cs x ↔ ∃ c ∈ cs, canB f c.st c.done x = true := by
  unfold canN
  rw [List.length_pos_iff_exists_mem]
  constructor
  · rintro ⟨c, hc⟩
    exact ⟨c, (List.mem_filter.1 hc).1, (List.mem_filter.1 hc).2⟩
  · rintro ⟨c, hc, h⟩
    exact ⟨c, List.mem_filter.2 ⟨hc, h⟩⟩
theorem can_goes {f : Flow} {st : Int} {done : List Str} {x : Str} (h : canB f st done x = true) : st = 0 ∧ runB f 0 done = true ∧ x ∈ rdyL f.steps done := by
  unfold canB at h
  simp only [Bool.and_eq_true, decide_eq_true_eq] at h
  obtain ⟨h1, rfl, h2⟩ := h
  exact ⟨rfl, h1, hasB_true.1 h2⟩
theorem emp_ne {s : Str} (h : 1 ≤ s.size) : s ≠ ⟨#[]⟩ := fun e => by rw [e] at h; exact absurd h (by decide)
theorem slow_none {f : Flow} {cs : List Case} (h : poolB f cs = true) : slowR f cs ≠ ⟨#[]⟩ ↔ ∃ j, j < cs.length ∧ (nth cs j).st = 0 := by
  have e : slowR f cs = (slowTo f cs f.steps.length).2 := by unfold slowR; rw [if_pos h]
  rw [e]
  obtain ⟨h1, h2⟩ := slow_spec f cs f.steps.length
  constructor
  · intro hne
    rcases h2 with ⟨_, h3⟩ | ⟨p, hp, h3, h4, _, _⟩
    · exact absurd h3 hne
    · obtain ⟨c, hc, hb⟩ := canN_pos.1 (show 0 < canN f cs (nth f.steps p).name by omega)
      obtain ⟨j, hj, rfl⟩ := nth_of_mem hc
      exact ⟨j, hj, (can_goes hb).1⟩
  · rintro ⟨j, hj, hst⟩
    have hr := pool_run h hj
    rw [hst] at hr
    obtain ⟨i, hi, hc⟩ := run_can hr
    have hpos : 0 < canN f cs (nth f.steps i).name := canN_pos.2 ⟨_, mem_nth hj, by rw [hst]; exact hc⟩
    rcases h2 with ⟨h3, _⟩ | ⟨p, hp, _, _, _, h6⟩
    · have := h1 i hi; omega
    · rw [h6]; exact emp_ne (flow_name (pool_flow h) hp)
end Go.Proofs.Ythcpjkhijjkolaa

/- slices.Max and slices.Index of integers. -/
namespace Go.Proofs.Ythcpjkhijjkolaa
open Go.RowKit

set_option maxRecDepth 100000 in
theorem maxInt_any (A : Option Addr) (n c : Nat) (xs : List Int) (lo : Nat) (w : World) (hr : RInt w lo A n xs) (hn : n ≤ 1048576) (h1 : 1 ≤ n) :
    Calls Try.prog 77 #[.slice A n c] w fun e w' => (∃ v : Int, e = .returned (.int .i64 v) ∧ (∀ j, j < n → nth xs j ≤ v) ∧ ∃ j, j < n ∧ nth xs j = v) ∧ w = w' := by
  have HR := Lib.hid hr; clear hr
  obtain ⟨b0, off0, rfl, _, hc0⟩ := RInt.at_ HR.out (k := 0) (by omega)
  have c0 := (hc0 0 (by omega)).1
  rw [Nat.add_zero] at c0
  clear hc0
  go_enter Try.func77, Try.ntmps77
  go_wp2_with fail
  go_loop [3, 4] (fun q i => ∃ (k : Nat) (v : Int), 1 ≤ k ∧ k ≤ n ∧ i = .int .i64 (k : Int) ∧ q = .int .i64 v ∧ (∀ j, j < k → nth xs j ≤ v) ∧ ∃ j, j < k ∧ nth xs j = v) (fun _ i => n - (intOf i).toNat)
  case atStart => exact ⟨1, nth xs 0, Nat.le_refl _, h1, rfl, rfl, fun j hj => by rw [show j = 0 by omega]; exact Int.le_refl _, 0, by omega, rfl⟩
  case round =>
    obtain ⟨k, v, hk1, hk, rfl, rfl, hp, hex⟩ := hrel
    have HP := Lib.hid hp; clear hp
    have HE := Lib.hid hex; clear hex
    by_cases hlt : k < n
    · obtain ⟨b, off, e, _, hc⟩ := RInt.at_ HR.out hlt
      injection e with e; injection e with e1 e2
      subst e1; subst e2
      have c1 := (hc k hlt).1
      clear hc
      by_cases hle : v ≤ nth xs k
      · have hmax : max v (nth xs k) = nth xs k := by omega
        go_wp2_with fail
        go_round
        case rel =>
          refine ⟨k + 1, nth xs k, by omega, by omega, by go_num, by first | rfl | rw [hmax] | (simp; omega), fun j hj => ?_, k, by omega, rfl⟩
          by_cases h : j < k
          · exact Int.le_trans (HP.out j h) hle
          · rw [show j = k by omega]; exact Int.le_refl _
        case measure => simp [intOf]; omega
      · have hmax : max v (nth xs k) = v := by omega
        go_wp2_with fail
        go_round
        case rel =>
          obtain ⟨j0, hj0, he0⟩ := HE.out
          refine ⟨k + 1, v, by omega, by omega, by go_num, by first | rfl | rw [hmax] | (simp; omega), fun j hj => ?_, j0, by omega, he0⟩
          by_cases h : j < k
          · exact HP.out j h
          · rw [show j = k by omega]; omega
        case measure => simp [intOf]; omega
    · obtain rfl : k = n := by omega
      go_wp2_with fail
      go_ret
      exact ⟨⟨v, rfl, HP.out, HE.out⟩, rfl⟩

set_option maxRecDepth 100000 in
theorem indexInt_any (A : Option Addr) (n c p : Nat) (xs : List Int) (v : Int) (lo : Nat) (w : World) (hr : RInt w lo A n xs) (hn : n ≤ 1048576) (hp : p < n) (hv : nth xs p = v) (hb : ∀ j, j < p → nth xs j ≠ v) :
    Calls Try.prog 78 #[.slice A n c, .int .i64 v] w fun e w' => e = .returned (.int .i64 (p : Int)) ∧ w = w' := by
  have HR := Lib.hid hr; clear hr
  have HB := Lib.hid hb; clear hb
  have HV := Lib.hid hv; clear hv
  go_enter Try.func78, Try.ntmps78
  go_wp2_with fail
  go_loop [8] (fun i => ∃ k : Nat, k ≤ p ∧ i = .int .i64 (k : Int)) (fun i => n - (intOf i).toNat)
  case atStart => exact ⟨0, Nat.zero_le _, rfl⟩
  case round =>
    obtain ⟨k, hk, rfl⟩ := hrel
    obtain ⟨b, off, rfl, _, hc⟩ := RInt.at_ HR.out (k := k) (by omega)
    have c1 := (hc k (by omega)).1
    clear hc
    have hkn : k < n := by omega
    by_cases he : k = p
    · subst he
      rw [HV.out] at c1
      have hq : (v == v) = true := by simp
      go_wp2_with fail
      go_ret
      exact ⟨rfl, rfl⟩
    · have hne := HB.out k (by omega)
      have hq : (v == nth xs k) = false := by rw [beq_eq_false_iff_ne]; exact fun e => hne e.symm
      generalize nth xs k = z at *
      go_wp2_with fail
      go_round
      case rel => exact ⟨k + 1, by omega, by go_num⟩
      case measure => simp [intOf]; omega
end Go.Proofs.Ythcpjkhijjkolaa

/- Runs: what can be done next, the program's side. -/
namespace Go.Proofs.Ythcpjkhijjkolaa
open Go.RowKit

set_option maxRecDepth 100000 in
set_option maxHeartbeats 1000000 in
theorem runNext0_any (A B : Option Addr) (n c m d : Nat) (f : Flow) (done : List Str) (lo lo' : Nat) (w : World) (hr : RStep w lo A n f.steps) (hok : okSteps f.steps) (hd : RStr w lo' B m done) (hm : m ≤ 1048576) (hmd : m ≤ d) (hv : runB f 0 done = true) :
    Calls Try.prog 23 #[.agg #[.int .i64 f.ver, .slice A n c], .agg #[.int .i64 0, .slice B m d]] w fun e w' => ∃ A' n' c', e = .returned (.slice A' n' c') ∧ RStr w' w.heap.size A' n' (rdyL f.steps done) ∧ Below w.heap.size w w' := by
  have HO := Lib.hid hok; clear hok
  have HRB := Lib.hid hv; clear hv
  have HX0 := Lib.hid (heap_old (o := .cells #[.int .i64 0, .slice B m d] 35) (heap_new (w := w) (o := .cells #[.int .i64 f.ver, .slice A n c] 33) rfl))
  have HY0 := Lib.hid (heap_new (w := w.alloc (.cells #[.int .i64 f.ver, .slice A n c] 33)) (b := w.heap.size + 1) (o := .cells #[.int .i64 0, .slice B m d] 35) (by simp))
  have HB0 := Lib.hid (((Below.refl w.heap.size w).alloc (Nat.le_refl _) (.cells #[.int .i64 f.ver, .slice A n c] 33)).alloc (by simp) (.cells #[.int .i64 0, .slice B m d] 35))
  have HR := Lib.hid ((hr.alloc (.cells #[.int .i64 f.ver, .slice A n c] 33)).alloc (.cells #[.int .i64 0, .slice B m d] 35)); clear hr
  have HD := Lib.hid ((hd.alloc (.cells #[.int .i64 f.ver, .slice A n c] 33)).alloc (.cells #[.int .i64 0, .slice B m d] 35)); clear hd
  go_enter Try.func23, Try.ntmps23
  go_wp2_with fail
  refine (runI_any _ _ _ _ _ _ f 0 done _ _ _ HR.out HO.out HD.out hm hmd).mono ?_
  rintro e w1 ⟨rfl, hb⟩
  rw [HRB.out]
  have HX1 := Lib.hid ((hb.block _ (heap_lt HX0.out)).trans HX0.out)
  have HY1 := Lib.hid ((hb.block _ (heap_lt HY0.out)).trans HY0.out)
  have HB1 := Lib.hid (HB0.out.trans (hb.mono HB0.out.size))
  have HR1 := Lib.hid (HR.out.below hb)
  have HD1 := Lib.hid (HD.out.below hb)
  clear hb
  have x0 := (blk_cl (k := 0) HX1.out rfl).1
  have x1 := (blk_cl (k := 1) HX1.out rfl).1
  have y0 := (blk_cl (k := 0) HY1.out rfl).1
  have y1 := (blk_cl (k := 1) HY1.out rfl).1
  go_wp2_with fail
  refine (ready_any _ _ _ _ _ _ f.ver f.steps done _ _ _ HR1.out HO.out HD1.out hm).mono ?_
  rintro e w2 ⟨A2, n2, c2, rfl, h2, hb2⟩
  have hs1 := HB1.out.size
  go_wp2_with fail
  go_ret
  exact ⟨_, _, _, rfl, h2.lower hs1, HB1.out.trans (hb2.mono HB1.out.size)⟩
end Go.Proofs.Ythcpjkhijjkolaa

/- Reports: what most cases can do next: counting, the program's side. -/
namespace Go.Proofs.Ythcpjkhijjkolaa
open Go.RowKit

/-- What a case can do next. -/
def clsL (f : Flow) (c : Case) : List Str := if c.st = 0 then rdyL f.steps c.done else []
theorem cls_can {f : Flow} {c : Case} (h : runB f c.st c.done = true) (x : Str) : hasB (clsL f c) x = canB f c.st c.done x := by
  unfold clsL canB
  rw [h]
  by_cases h0 : c.st = 0
  · rw [if_pos h0]; simp [h0]
  · rw [if_neg h0]; simp [h0, hasB]
def canL (f : Flow) (xs : List Str) (cs : List Case) : List Int := xs.map fun x => ((canN f cs x : Nat) : Int)
theorem canL_len (f : Flow) (xs : List Str) (cs : List Case) : (canL f xs cs).length = xs.length := List.length_map _
theorem canL_at {f : Flow} {xs : List Str} {cs : List Case} {i : Nat} (hi : i < xs.length) : nth (canL f xs cs) i = ((canN f cs (nth xs i) : Nat) : Int) := by
  unfold canL
  rw [nth_eq (by rw [List.length_map]; exact hi), nth_eq hi]; simp
theorem canN_small (f : Flow) (cs : List Case) (k : Nat) (x : Str) : canN f (cs.take k) x ≤ cs.length := Nat.le_trans (canN_le _ _ _) (List.length_take_le' k cs)

set_option maxRecDepth 100000 in
theorem slow1_any (A AF : Option Addr) (n c nF cF g : Nat) (f : Flow) (s : Case) (lo : Nat) (w : World) (hd : RStr w lo A n s.done) (hn : n ≤ 1048576) (hnc : n ≤ c) (hok : okSteps f.steps) (hF : w.heap[g]? = some (.cells #[.int .i64 f.ver, .slice AF nF cF] 33 (0, 0))) (hSF : RStep w 0 AF nF f.steps) (hv : runB f s.st s.done = true) :
    Calls Try.prog 76 #[.agg #[.string s.name, .int .i64 s.st, .slice A n c], .pointer (some ⟨g, 0, none⟩)] w fun e w' => ∃ A' n' c', e = .returned (.slice A' n' c') ∧ RStr w' 0 A' n' (clsL f s) ∧ n' ≤ 1048576 ∧ Below w.heap.size w w' := by
  have HD := Lib.hid (hd.alloc (.cells #[.string s.name, .int .i64 s.st, .slice A n c] 53)); clear hd
  have HSF := Lib.hid (hSF.alloc (.cells #[.string s.name, .int .i64 s.st, .slice A n c] 53)); clear hSF
  have HF := Lib.hid (heap_old (o := .cells #[.string s.name, .int .i64 s.st, .slice A n c] 53) hF); clear hF
  have HB := Lib.hid ((Below.refl w.heap.size w).alloc (Nat.le_refl _) (.cells #[.string s.name, .int .i64 s.st, .slice A n c] 53))
  have f0 := (blk_cl (k := 0) HF.out rfl).1
  have f1 := (blk_cl (k := 1) HF.out rfl).1
  by_cases h0 : s.st = 0
  · have HE := Lib.hid (show clsL f s = rdyL f.steps s.done by unfold clsL; rw [if_pos h0])
    rw [h0] at hv ⊢
    rw [h0] at HD HSF HF HB f0 f1
    go_enter Try.func76, Try.ntmps76
    go_wp2_with fail
    refine (runNext0_any _ _ _ _ _ _ f s.done _ _ _ HSF.out hok HD.out hn hnc hv).mono ?_
    rintro e w1 ⟨A1, n1, c1, rfl, h1, hb1⟩
    have hl : n1 ≤ 1048576 := by rw [← h1.1]; exact Nat.le_trans (rdyL_len _ _) hok.1
    go_wp2_with fail
    go_ret
    exact ⟨_, _, _, rfl, by rw [HE.out]; exact h1.lower (Nat.zero_le _), hl, HB.out.trans (hb1.mono HB.out.size)⟩
  · have HE := Lib.hid (show clsL f s = [] by unfold clsL; rw [if_neg h0])
    have hq : (s.st != 0) = true := by simp [h0]
    generalize s.st = z at *
    go_enter Try.func76, Try.ntmps76
    go_wp2_with fail
    go_ret
    exact ⟨_, _, _, rfl, by rw [HE.out]; exact RL.nil, by omega, HB.out⟩

set_option maxRecDepth 100000 in
set_option maxHeartbeats 2000000 in
theorem tallySlow_any (A B AF : Option Addr) (n c m d nF cF g : Nat) (f : Flow) (xs : List Str) (cs : List Case) (lo lo' : Nat) (w : World) (hr : RStr w lo A n xs) (hn : n ≤ 1048576) (hd : RCase w lo' B m cs) (hcs : okCases cs) (hok : okSteps f.steps) (hF : w.heap[g]? = some (.cells #[.int .i64 f.ver, .slice AF nF cF] 33 (0, 0))) (hSF : RStep w 0 AF nF f.steps) (hv : ∀ k, k < m → runB f (nth cs k).st (nth cs k).done = true) :
    Calls Try.prog 74 #[.slice A n c, .slice B m d, .func (.func 76) #[] #[.pointer (some ⟨g, 0, none⟩)]] w fun e w' => ∃ A' c', e = .returned (.slice A' n c') ∧ RInt w' w.heap.size A' n (canL f xs cs) ∧ Below w.heap.size w w' := by
  have HL := Lib.hid hd.1
  have HLx := Lib.hid hr.1
  have hm : m ≤ 1048576 := by have := hcs.1; rw [hd.1] at this; exact this
  have HR := Lib.hid hr; clear hr
  have HD := Lib.hid hd; clear hd
  have HC := Lib.hid hcs; clear hcs
  have HF := Lib.hid hF; clear hF
  have HSF := Lib.hid hSF; clear hSF
  have HV := Lib.hid hv; clear hv
  obtain ⟨i0, hi0, hz0, hz1, hz2⟩ := info_parts info_int
  go_enter Try.func74, Try.ntmps74
  go_wp2_with (at_make; refine wpList_make_full _ rfl _ _ 62 rfl w.heap.size 3 i0 _ 1 Try.underlying62 hi0 hz0 hz1 _ _ _ _ n rfl rfl rfl rfl ?c1 ?c2 (Nat.le_refl _) ?_)
  case c1 => rw [hz2]; omega
  case c2 => unfold maxLen; omega
  intro w1 hown hgr
  have hbw : Below w.heap.size w w1 := (Below.refl _ _).grown hgr (Nat.le_refl _) (by simp)
  obtain ⟨A1, c1, hv1, hr1⟩ := own_fresh_int hown
  injection hv1 with hA1 hn1 hc1
  subst hA1
  clear hn1 hc1 hown hgr
  have HR1 := Lib.hid hr1; clear hr1
  have HB1 := Lib.hid hbw; clear hbw
  go_wp2_with fail
  go_loopw [18] (fun i wr => ∃ (k : Nat) (ys : List Int), k ≤ m ∧ i = .int .i64 (k : Int) ∧ RInt wr w.heap.size (some ⟨w.heap.size, 0, none⟩) n ys ∧ (∀ l, l < n → nth ys l = ((canN f (cs.take k) (nth xs l) : Nat) : Int)) ∧ Below w.heap.size w wr) (fun i _ => m - (intOf i).toNat)
  case atStart => exact ⟨0, _, Nat.zero_le _, rfl, HR1.out, fun l hl => nth_rep hl, HB1.out⟩
  case round =>
    obtain ⟨wo, rfl⟩ : ∃ wo : World, wo = wr := ⟨_, rfl⟩
    obtain ⟨k, ys, hk, rfl, hy, hp, hb⟩ := hrel
    have HY := Lib.hid hy; clear hy
    have HP := Lib.hid hp; clear hp
    have HB := Lib.hid hb; clear hb
    by_cases hlt : k < m
    · obtain ⟨b, off, rfl, _, hc⟩ := RCase.at_ (HD.out.below HB.out) hlt
      obtain ⟨A', n', c', ⟨d1, d2, d3⟩, hdr, hnc, _⟩ := hc k hlt
      clear hc
      have hkl : k < cs.length := by rw [HL.out]; exact hlt
      have hn' : n' ≤ 1048576 := by rw [← hdr.1]; exact (HC.out.2 k hkl).2
      have HDR := Lib.hid (hdr.alloc (.cells #[.string (nth cs k).name, .int .i64 (nth cs k).st, .slice A' n' c'] 53)); clear hdr
      have HY2 := Lib.hid (HY.out.alloc (.cells #[.string (nth cs k).name, .int .i64 (nth cs k).st, .slice A' n' c'] 53))
      have HB2 := Lib.hid (HB.out.alloc HB.out.size (.cells #[.string (nth cs k).name, .int .i64 (nth cs k).st, .slice A' n' c'] 53))
      go_wp2_with fail
      have HBF := Lib.hid (heap_old (o := .cells #[.string (nth cs k).name, .int .i64 (nth cs k).st, .slice A' n' c'] 53) ((HB.out.block g (heap_lt HF.out)).trans HF.out))
      refine (slow1_any _ _ _ _ _ _ g f (nth cs k) _ _ HDR.out hn' hnc hok HBF.out ((HSF.out.below HB.out).alloc _) (HV.out k hlt)).mono ?_
      rintro e w3 ⟨A'', n'', c'', rfl, hdr3, hn'', hb3⟩
      have HDR3 := Lib.hid hdr3; clear hdr3
      have HY3 := Lib.hid (HY2.out.below hb3)
      have HB3 := Lib.hid (HB2.out.trans (hb3.mono HB2.out.size))
      clear hb3 HY2 HB2 HDR d1 d2 d3
      go_wp2_with fail
      go_loopw [27] (fun i wr => ∃ (j : Nat) (zs : List Int), j ≤ n ∧ i = .int .i64 (j : Int) ∧ RInt wr w.heap.size (some ⟨w.heap.size, 0, none⟩) n zs ∧ (∀ l, l < j → nth zs l = ((canN f (cs.take (k + 1)) (nth xs l) : Nat) : Int)) ∧ (∀ l, j ≤ l → l < n → nth zs l = ((canN f (cs.take k) (nth xs l) : Nat) : Int)) ∧ Below w.heap.size w wr ∧ RStr wr 0 A'' n'' (clsL f (nth cs k))) (fun i _ => n - (intOf i).toNat)
      case atStart => exact ⟨0, ys, Nat.zero_le _, rfl, HY3.out, fa_zero, fun l _ hl => HP.out l hl, HB3.out, HDR3.out⟩
      case round =>
        obtain ⟨j, zs, hj, rfl, hz, hp1, hp2, hbz, hdz⟩ := hrel
        have HZ := Lib.hid hz; clear hz
        have HP1 := Lib.hid hp1; clear hp1
        have HP2 := Lib.hid hp2; clear hp2
        have HBZ := Lib.hid hbz; clear hbz
        have HDZ := Lib.hid hdz; clear hdz
        by_cases hlt2 : j < n
        · obtain ⟨bx, ox, rfl, _, hc⟩ := RStr.at_ (HR.out.below HBZ.out) hlt2
          obtain ⟨x1, _⟩ := hc j hlt2
          clear hc
          have HCON := Lib.hid (contains_any A'' n'' c'' (clsL f (nth cs k)) (nth xs j) _ wr HDZ.out hn'')
          have hcc := cls_can (HV.out k hlt) (nth xs j)
          cases hh : hasB (clsL f (nth cs k)) (nth xs j)
          · have HT := Lib.hid (canN_no hkl (hcc.symm.trans hh))
            rw [hh] at HCON
            clear hh hcc
            go_wp2_with (go_at_call 108; refine HCON.out.mono ?_; rintro e w' ⟨rfl, rfl⟩)
            go_roundw
            case rel =>
              refine ⟨j + 1, zs, by omega, by go_num, HZ.out, fun l hl => ?_, fun l h1 h2 => HP2.out l (by omega) h2, HBZ.out, HDZ.out⟩
              rcases Nat.lt_succ_iff_lt_or_eq.1 hl with h | rfl
              · exact HP1.out l h
              · rw [HT.out]; exact HP2.out l (Nat.le_refl _) hlt2
            case measure => simp [intOf]; omega
          · have HT := Lib.hid (canN_yes hkl (hcc.symm.trans hh))
            rw [hh] at HCON
            clear hh hcc
            obtain ⟨b', off', e', _, hc⟩ := RInt.at_ HZ.out hlt2
            injection e' with e'; injection e' with e1 e2
            have HE1 := Lib.hid e1; clear e1
            subst e2
            obtain ⟨f1, f2⟩ := hc j hlt2
            rw [← HE1.out, Nat.zero_add] at f1 f2
            rw [HP2.out j (Nat.le_refl _) hlt2] at f1
            clear hc
            have hv := canN_small f cs k (nth xs j)
            rw [HL.out] at hv
            have HVV := Lib.hid (HP2.out j (Nat.le_refl _) hlt2)
            have HTJ := HT.out
            generalize canN f (cs.take k) (nth xs j) = v at *
            go_wp2_with (go_at_call 108; refine HCON.out.mono ?_; rintro e w' ⟨rfl, rfl⟩)
            go_roundw
            case rel =>
              have hset := RInt.set_ HZ.out hlt2 ((v : Int) + 1)
              rw [Nat.zero_add] at hset
              refine ⟨j + 1, zs.set j ((v : Int) + 1), by omega, by go_num, hset, fun l hl => ?_, fun l h1 h2 => ?_, HBZ.out.setCell (Nat.le_refl _) _, ?_⟩
              · rw [nth_set (by rw [HZ.out.1]; exact hlt2)]
                by_cases el : l = j
                · subst el
                  rw [if_pos rfl, HTJ]; simp
                · rw [if_neg el]; exact HP1.out l (by omega)
              · rw [nth_set (by rw [HZ.out.1]; exact hlt2), if_neg (by omega)]
                exact HP2.out l (by omega) h2
              · exact (RStr.set_ne HDZ.out.low ⟨f1, f2⟩ (fun s e => by cases e)).up (by simp)
            case measure => simp [intOf]; omega
        · obtain rfl : j = n := by omega
          go_wp2_with fail
          go_roundw
          case rel => exact ⟨k + 1, zs, by omega, by go_num, HZ.out, fun l hl => HP1.out l hl, HBZ.out⟩
          case measure => simp [intOf]; omega
    · have hkm : k = cs.length := by rw [HL.out]; omega
      go_wp2_with fail
      go_ret
      refine ⟨_, _, rfl, ?_, HB.out⟩
      have e : ys = canL f xs cs := list_ext (by rw [HY.out.1, canL_len, HLx.out]) (fun l hl => by
        rw [HY.out.1] at hl
        rw [HP.out l hl, canL_at (by rw [HLx.out]; exact hl), hkm, List.take_length])
      rw [← e]
      exact HY.out
end Go.Proofs.Ythcpjkhijjkolaa

/- Reports: what most cases can do next, the program's side. -/
namespace Go.Proofs.Ythcpjkhijjkolaa
open Go.RowKit

set_option maxRecDepth 100000 in
set_option maxHeartbeats 1000000 in
theorem slowI_any (A B : Option Addr) (n c m d : Nat) (f : Flow) (cs : List Case) (lo lo' : Nat) (w : World) (hr : RStep w lo A n f.steps) (hok : okSteps f.steps) (hd : RCase w lo' B m cs) (hcs : okCases cs) :
    Calls Try.prog 26 #[.agg #[.int .i64 f.ver, .slice A n c], .slice B m d] w fun e w' => e = .returned (.string (slowR f cs)) ∧ Below w.heap.size w w' := by
  have HLn := Lib.hid hr.1
  have HLm := Lib.hid hd.1
  have hn : n ≤ 1048576 := by have := hok.1; rw [hr.1] at this; exact this
  have HB0 := Lib.hid ((Below.refl w.heap.size w).alloc (Nat.le_refl _) (.cells #[.int .i64 f.ver, .slice A n c] 33))
  have HD0 := Lib.hid (hd.alloc (.cells #[.int .i64 f.ver, .slice A n c] 33)); clear hd
  have HR0 := Lib.hid (hr.alloc (.cells #[.int .i64 f.ver, .slice A n c] 33)); clear hr
  have HX0 := Lib.hid (heap_new (w := w) (o := .cells #[.int .i64 f.ver, .slice A n c] 33) rfl)
  go_enter Try.func26, Try.ntmps26
  go_wp2_with fail
  refine (poolI_any _ _ _ _ _ _ f cs _ _ _ HR0.out hok HD0.out hcs).mono ?_
  rintro e w1 ⟨rfl, hb⟩
  have HB1 := Lib.hid (HB0.out.trans (hb.mono HB0.out.size))
  have HD1 := Lib.hid (HD0.out.below hb)
  have HR1 := Lib.hid (HR0.out.below hb)
  have HX1 := Lib.hid ((hb.block _ (heap_lt HX0.out)).trans HX0.out)
  clear hb HB0 HD0 HR0 HX0
  cases hp : poolB f cs
  · have HE : Hid (slowR f cs = ⟨#[]⟩) := by show _ = _; unfold slowR; rw [if_neg (by rw [hp]; simp)]
    clear hp
    go_wp2_with fail
    go_ret
    exact ⟨ret_s HE.out.symm, HB1.out⟩
  have HE : Hid (slowR f cs = (slowTo f cs f.steps.length).2) := by show _ = _; unfold slowR; rw [if_pos hp]
  have HP := Lib.hid hp
  have hn1 : 1 ≤ n := by have := (flowB_iff.1 (pool_flow hp)).2.2.1.1; rw [HLn.out] at this; omega
  clear hp
  have x0 := (blk_cl (k := 0) HX1.out rfl).1
  have x1 := (blk_cl (k := 1) HX1.out rfl).1
  go_wp2_with fail
  refine (names_any _ _ _ f.ver f.steps _ _ HR1.out hn).mono ?_
  rintro e w2 ⟨A2, c2, rfl, h2, hb2⟩
  have HD2 := Lib.hid (HD1.out.below hb2)
  have HR2 := Lib.hid (HR1.out.below hb2)
  have HX2 := Lib.hid ((hb2.block _ (heap_lt HX1.out)).trans HX1.out)
  have H2 := Lib.hid h2; clear h2
  have HB2 := Lib.hid (HB1.out.trans (hb2.mono HB1.out.size)); clear hb2 x0 x1
  go_wp2_with fail
  refine (tallySlow_any _ _ _ _ _ _ _ _ _ w.heap.size f (namesOf f.steps) cs _ _ _ H2.out hn HD2.out hcs hok HX2.out (HR2.out.lower (Nat.zero_le _)) (fun k hk => pool_run HP.out (by rw [HLm.out]; exact hk))).mono ?_
  rintro e w3 ⟨A3, c3, rfl, h3, hb3⟩
  have HR3 := Lib.hid (HR2.out.below hb3)
  have HX3 := Lib.hid ((hb3.block _ (heap_lt HX2.out)).trans HX2.out)
  have H3 := Lib.hid h3; clear h3
  have HB3 := Lib.hid (HB2.out.trans (hb3.mono HB2.out.size)); clear hb3
  go_wp2_with fail
  refine (maxInt_any _ _ _ _ _ _ H3.out hn hn1).mono ?_
  rintro e w4 ⟨⟨v, rfl, hv1, hv2⟩, rfl⟩
  have hat : ∀ j, j < n → nth (canL f (namesOf f.steps) cs) j = ((canN f cs (nth f.steps j).name : Nat) : Int) := fun j hj => by
    rw [canL_at (by rw [namesOf_len, HLn.out]; exact hj), namesOf_at (by rw [HLn.out]; exact hj)]
  obtain ⟨s1, s2⟩ := slow_spec f cs n
  obtain ⟨j0, hj0, he0⟩ := hv2
  rw [hat j0 hj0] at he0
  have hj1 := s1 j0 hj0
  rcases s2 with ⟨z1, z2⟩ | ⟨p, hp, z1, z2, z3, z4⟩
  · have hv0 : v = 0 := by omega
    subst hv0
    have HE2 := Lib.hid (show slowR f cs = ⟨#[]⟩ by rw [HE.out, HLn.out]; exact z2)
    clear hat s1 he0 hj1 z1 z2 hv1
    go_wp2_with fail
    go_ret
    exact ⟨ret_s HE2.out.symm, HB3.out⟩
  · have hp1 := hv1 p hp
    rw [hat p hp] at hp1
    have hvp : v = (((slowTo f cs n).1 : Nat) : Int) := by omega
    have hne : (v == 0) = false := by rw [beq_eq_false_iff_ne]; omega
    have HIX := Lib.hid (fun y : Bl w3 => indexInt_any A3 n c3 p (canL f (namesOf f.steps) cs) v _ y.wd (H3.out.below y.below) hn hp (by rw [hat p hp]; omega) (fun j hj => by rw [hat j (by omega)]; have := z3 j hj; omega))
    have HE2 := Lib.hid (show slowR f cs = (nth f.steps p).name by rw [HE.out, HLn.out]; exact z4)
    obtain ⟨b, off, rfl, ⟨_, hb2⟩, hc⟩ := RStep.at_ HR3.out hp
    obtain ⟨_, _, _, ⟨d1, _, _⟩, _⟩ := hc p hp
    clear hc hat s1 he0 hj1 z1 z2 z3 z4 hv1 hvp hp1
    have X1 : ∀ y : Bl w3, y.wd.cell? ⟨w.heap.size, 1, none⟩ = some (.slice (some ⟨b, off, none⟩) n c) := fun y => (blk_cl (k := 1) ((y.below.block _ (heap_lt HX3.out)).trans HX3.out) rfl).1
    have Y0 : ∀ y : Bl w3, y.wd.cell? ⟨b, off + p * 3, none⟩ = some (.string (nth f.steps p).name) := fun y => (y.below.cell (p := ⟨b, off + p * 3, none⟩) hb2).trans d1
    clear d1
    go_wp2_with fail
    refine region_bl (by kernel_rfl) (by kernel_rfl) ?_
    repeat (go_big_quiet_step ((go_at_call 78; exact q_bl_same (HIX.out _))))
    refine wpQuiet_nil ?_
    intro _ hw'
    obtain ⟨y, rfl⟩ := hw'
    have HY := Lib.hid (HB3.out.trans (y.below.mono HB3.out.size))
    clear X1 Y0 HIX
    go_wp2_with fail
    go_ret
    exact ⟨ret_s HE2.out.symm, HY.out⟩
end Go.Proofs.Ythcpjkhijjkolaa

/- FnSlowNone: the walk. -/
namespace Go.Proofs.Ythcpjkhijjkolaa
open Go.RowKit

theorem sem_t {s : Str} (h : s ≠ ⟨#[]⟩) : (s.toList == ([] : List UInt8)) = false := by
  have := seq_f h
  rwa [show (⟨#[]⟩ : ByteArray).toList = [] by rw [ByteArray.toList_eq]] at this

set_option maxRecDepth 100000 in
set_option maxHeartbeats 1000000 in
theorem fnSlowNone_any (A : Option Addr) (n c : Nat) (w : World) (hr : RByte w A n) (hc : n ≤ c) :
    Calls Try.prog 6 #[.slice A n c] w fun e w' => e = .returned (.bool true) ∧ Below w.heap.size w w' := by
  have HR := Lib.hid hr; clear hr
  by_cases hn : 1048576 < n
  · go_enter Try.func6, Try.ntmps6
    go_wp2_with fail
    go_ret
    exact ⟨rfl, Below.refl _ _⟩
  go_enter Try.func6, Try.ntmps6
  go_wp2_with fail
  refine (drawReportSlow_any _ _ _ _ HR.out hc (by omega)).mono ?_
  rintro e w1 ⟨f, A1, n1, c1, B1, m1, d1, cs, rfl, hs, hok, h1, h6, hcs, hokc, hmd, hm9, hb1⟩
  have HOK := Lib.hid hok; clear hok
  have HOC := Lib.hid hokc; clear hokc
  have HL := Lib.hid hcs.1
  have HS1 := Lib.hid (hs.alloc (.cells #[.int .i64 f.ver, .slice A1 n1 c1] 33)); clear hs
  have HC1 := Lib.hid (hcs.alloc (.cells #[.int .i64 f.ver, .slice A1 n1 c1] 33)); clear hcs
  have HB1 := Lib.hid (hb1.alloc hb1.size (.cells #[.int .i64 f.ver, .slice A1 n1 c1] 33)); clear hb1
  have HX1 := Lib.hid (heap_new (w := w1) (o := .cells #[.int .i64 f.ver, .slice A1 n1 c1] 33) rfl)
  go_wp2_with fail
  refine (slowI_any _ _ _ _ _ _ f cs _ _ _ HS1.out HOK.out HC1.out HOC.out).mono ?_
  rintro e w2 ⟨rfl, hb2⟩
  have HX2 := Lib.hid ((hb2.block _ (heap_lt HX1.out)).trans HX1.out)
  have HB2 := Lib.hid (HB1.out.trans (hb2.mono HB1.out.size))
  have HS2 := Lib.hid (HS1.out.below hb2)
  have HC2 := Lib.hid (HC1.out.below hb2)
  clear hb2
  have x0 := (blk_cl (k := 0) HX2.out rfl).1
  have x1 := (blk_cl (k := 1) HX2.out rfl).1
  go_wp2_with fail
  refine (slowS_any _ _ _ _ _ _ f cs _ _ _ HS2.out HOK.out HC2.out HOC.out).mono ?_
  rintro e w3 ⟨rfl, hb3⟩
  have HX3 := Lib.hid ((hb3.block _ (heap_lt HX2.out)).trans HX2.out)
  have HB3 := Lib.hid (HB2.out.trans (hb3.mono HB2.out.size))
  have HS3 := Lib.hid (HS2.out.below hb3)
  have HC3 := Lib.hid (HC2.out.below hb3)
  clear hb3 x0 x1 HX1 HX2 HS1 HS2 HC1 HC2
  have HNONE := Lib.hid (fun hp => slow_none (f := f) (cs := cs) hp)
  generalize slowR f cs = z at *
  have hq0 : (z.toList != z.toList) = false := by simp
  have hq1 : (z.toList == z.toList) = true := by simp
  have x0 := (blk_cl (k := 0) HX3.out rfl).1
  have x1 := (blk_cl (k := 1) HX3.out rfl).1
  go_wp2_with fail
  refine (poolS_any _ _ _ _ _ _ f cs _ _ _ HS3.out HOK.out HC3.out HOC.out).mono ?_
  rintro e w4 ⟨rfl, hb4⟩
  have HB4 := Lib.hid (HB3.out.trans (hb4.mono HB3.out.size))
  have HC4 := Lib.hid (HC3.out.below hb4)
  clear hb4 x0 x1
  cases hp : poolB f cs
  · clear hp
    go_wp2_with fail
    go_ret
    exact ⟨rfl, HB4.out⟩
  have HN := Lib.hid (HNONE.out hp)
  clear hp HNONE
  go_wp2_with fail
  go_loopw [7, 8] (fun o i wr => ∃ (k : Nat) (b : Bool), k ≤ m1 ∧ i = .int .i64 (k : Int) ∧ o = .bool b ∧ (b = true ↔ ∃ j, j < k ∧ (nth cs j).st = 0) ∧ wr = w4) (fun _ i _ => m1 - (intOf i).toNat)
  case atStart => exact ⟨0, false, Nat.zero_le _, rfl, rfl, by simp, rfl⟩
  case round =>
    obtain ⟨k, b, hk, rfl, rfl, hb, rfl⟩ := hrel
    have HBO := Lib.hid hb; clear hb
    by_cases hlt : k < m1
    · obtain ⟨b', off, rfl, _, hcc⟩ := RCase.at_ HC4.out hlt
      obtain ⟨A', n', c', ⟨y1, y2, y3⟩, _⟩ := hcc k hlt
      clear hcc
      by_cases h0 : (nth cs k).st = 0
      · have hq : ((nth cs k).st == 0) = true := by rw [h0]; rfl
        have HT : Hid ((true = true) ↔ ∃ j, j < k + 1 ∧ (nth cs j).st = 0) := ⟨fun _ => ⟨k, by omega, h0⟩, fun _ => rfl⟩
        generalize (nth cs k).st = z at *
        cases b
        · go_wp2_with fail
          go_roundw
          case rel => exact ⟨k + 1, true, by omega, by go_num, rfl, HT.out, trivial⟩
          case measure => simp [intOf]; omega
        · go_wp2_with fail
          go_roundw
          case rel => exact ⟨k + 1, true, by omega, by go_num, rfl, HT.out, trivial⟩
          case measure => simp [intOf]; omega
      · have hq : ((nth cs k).st == 0) = false := by rw [beq_eq_false_iff_ne]; exact h0
        have HT : Hid ((b = true) ↔ ∃ j, j < k + 1 ∧ (nth cs j).st = 0) := by
          show _ ↔ _
          rw [HBO.out]
          constructor
          · rintro ⟨j, hj, e⟩; exact ⟨j, by omega, e⟩
          · rintro ⟨j, hj, e⟩
            refine ⟨j, ?_, e⟩
            rcases Nat.lt_succ_iff_lt_or_eq.1 hj with h | h
            · exact h
            · rw [h] at e; exact absurd e h0
        generalize (nth cs k).st = z at *
        cases b
        · go_wp2_with fail
          go_roundw
          case rel => exact ⟨k + 1, false, by omega, by go_num, rfl, HT.out, trivial⟩
          case measure => simp [intOf]; omega
        · go_wp2_with fail
          go_roundw
          case rel => exact ⟨k + 1, true, by omega, by go_num, rfl, HT.out, trivial⟩
          case measure => simp [intOf]; omega
    · have hkm : k = cs.length := by rw [HL.out]; omega
      have hbz : b = true ↔ z ≠ ⟨#[]⟩ := by rw [HBO.out, HN.out, hkm]
      clear hkm
      by_cases hz : z = ⟨#[]⟩
      · have hb : b = false := by rw [← Bool.not_eq_true]; intro h; exact hbz.1 h hz
        subst hb
        clear hbz HN HBO
        subst hz
        go_wp2_with fail
        go_ret
        exact ⟨rfl, HB4.out⟩
      · have hb : b = true := hbz.2 hz
        subst hb
        clear hbz HN HBO
        have hq := sem_t hz
        clear hz
        go_wp2_with fail
        go_ret
        exact ⟨rfl, HB4.out⟩
end Go.Proofs.Ythcpjkhijjkolaa

/- FnRunText: the walk. -/
namespace Go.Proofs.Ythcpjkhijjkolaa
open Go.RowKit

set_option maxRecDepth 100000 in
set_option maxHeartbeats 1000000 in
theorem fnRunText_any (A : Option Addr) (n c : Nat) (w : World) (hr : RByte w A n) (hc : n ≤ c) :
    Calls Try.prog 4 #[.slice A n c] w fun e w' => e = .returned (.bool true) ∧ Below w.heap.size w w' := by
  have HR := Lib.hid hr; clear hr
  by_cases hn : 1048576 < n
  · go_enter Try.func4, Try.ntmps4
    go_wp2_with fail
    go_ret
    exact ⟨rfl, Below.refl _ _⟩
  go_enter Try.func4, Try.ntmps4
  go_wp2_with fail
  refine (drawRunText_any _ _ _ _ HR.out hc (by omega)).mono ?_
  rintro e w1 ⟨f, A1, n1, c1, st, B1, m1, d1, xs, rfl, hs, hok, h1, h6, hxs, hmd, hm9, hb1⟩
  have HOK := Lib.hid hok; clear hok
  have HL := Lib.hid hxs.1
  have HS1 := Lib.hid ((hs.alloc (.cells #[.int .i64 f.ver, .slice A1 n1 c1] 33)).alloc (.cells #[.int .i64 st, .slice B1 m1 d1] 35)); clear hs
  have HD1 := Lib.hid ((hxs.alloc (.cells #[.int .i64 f.ver, .slice A1 n1 c1] 33)).alloc (.cells #[.int .i64 st, .slice B1 m1 d1] 35)); clear hxs
  have HB1 := Lib.hid ((hb1.alloc hb1.size (.cells #[.int .i64 f.ver, .slice A1 n1 c1] 33)).alloc (Nat.le_trans hb1.size (by simp)) (.cells #[.int .i64 st, .slice B1 m1 d1] 35)); clear hb1
  have HX1 := Lib.hid (heap_old (o := .cells #[.int .i64 st, .slice B1 m1 d1] 35) (heap_new (w := w1) (o := .cells #[.int .i64 f.ver, .slice A1 n1 c1] 33) rfl))
  have HY1 := Lib.hid (heap_new (w := w1.alloc (.cells #[.int .i64 f.ver, .slice A1 n1 c1] 33)) (b := w1.heap.size + 1) (o := .cells #[.int .i64 st, .slice B1 m1 d1] 35) (by simp))
  go_wp2_with fail
  refine (runTextI_any _ _ _ _ _ _ f st xs _ _ _ HS1.out HOK.out HD1.out (by omega) hmd).mono ?_
  rintro e w2 ⟨rfl, hb2⟩
  have HX2 := Lib.hid ((hb2.block _ (heap_lt HX1.out)).trans HX1.out)
  have HY2 := Lib.hid ((hb2.block _ (heap_lt HY1.out)).trans HY1.out)
  have HB2 := Lib.hid (HB1.out.trans (hb2.mono HB1.out.size))
  have HS2 := Lib.hid (HS1.out.below hb2)
  have HD2 := Lib.hid (HD1.out.below hb2)
  clear hb2
  have x0 := (blk_cl (k := 0) HX2.out rfl).1
  have x1 := (blk_cl (k := 1) HX2.out rfl).1
  have y0 := (blk_cl (k := 0) HY2.out rfl).1
  have y1 := (blk_cl (k := 1) HY2.out rfl).1
  go_wp2_with fail
  refine (runTextS_any _ _ _ _ _ _ f st xs _ _ _ HS2.out HOK.out HD2.out (by omega) hmd).mono ?_
  rintro e w3 ⟨rfl, hb3⟩
  have HY3 := Lib.hid ((hb3.block _ (heap_lt HY2.out)).trans HY2.out)
  have HB3 := Lib.hid (HB2.out.trans (hb3.mono HB2.out.size))
  have HD3 := Lib.hid (HD2.out.below hb3)
  clear hb3 x0 x1 y0 y1 HX1 HX2 HS1 HS2 HY1 HY2 HD1 HD2
  cases hrun : runB f st xs
  · rw [rtT_no hrun]
    clear hrun
    go_wp2_with fail
    go_ret
    exact ⟨rfl, HB3.out⟩
  rw [rtT_yes hrun]
  obtain ⟨hlt, hext⟩ := rt_end st xs
  have hne : rtS st xs ≠ ⟨#[]⟩ := emp_ne (by omega)
  have hsz : (rtS st xs).size ≤ 100 := by
    obtain ⟨h8, hnm⟩ := run_sizes hrun
    have h1 := namesS_size8 h8 hnm
    have h2 := stateS_size st
    unfold rtS
    rw [bsz_app, bsz_app]
    show _ + 1 + _ ≤ 100
    omega
  clear hrun
  have hq0 : ((rtS st xs).toList != (rtS st xs).toList) = false := by simp
  have hq1 := sem_t hne
  clear hne
  have y0 := (blk_cl (k := 0) HY3.out rfl).1
  have y1 := (blk_cl (k := 1) HY3.out rfl).1
  have HLS := Lib.hid (show lastS xs = if xs.length = 0 then ⟨#[32, 45]⟩ else nth xs (xs.length - 1) from rfl)
  rw [HL.out] at HLS
  generalize rtS st xs = y at *
  generalize lastS xs = l at *
  have HHE := Lib.hid hext; clear hext
  by_cases hm0 : m1 = 0
  · have hl : l = ⟨#[32, 45]⟩ := by rw [HLS.out, if_pos hm0]
    subst hl
    subst hm0
    clear HLS
    have h2 : (2 : Nat) < y.size := hlt
    have he : y.extract (y.size - 2) y.size = ⟨#[32, 45]⟩ := HHE.out
    go_wp2_with fail
    go_ret
    exact ⟨rfl, HB3.out⟩
  · have hl : l = nth xs (m1 - 1) := by rw [HLS.out, if_neg hm0]
    obtain ⟨b, off, rfl, _, hcc⟩ := RStr.at_ HD3.out (show m1 - 1 < m1 by omega)
    have z1 := (hcc (m1 - 1) (by omega)).1
    clear hcc
    rw [← hl] at z1
    clear hl HLS
    have hm1 : (0 : Int) < (m1 : Int) := by omega
    go_wp2_with fail
    go_ret
    exact ⟨ret_b (by rw [HHE.out]; simp), HB3.out⟩
end Go.Proofs.Ythcpjkhijjkolaa

/- Runs: a step is done, the program's side. -/
namespace Go.Proofs.Ythcpjkhijjkolaa
open Go.RowKit

set_option maxRecDepth 100000 in
set_option maxHeartbeats 1000000 in
theorem canI_any (A B : Option Addr) (n c m d : Nat) (f : Flow) (st : Int) (done : List Str) (x : Str) (lo lo' : Nat) (w : World) (hr : RStep w lo A n f.steps) (hok : okSteps f.steps) (hd : RStr w lo' B m done) (hm : m ≤ 1048576) (hmd : m ≤ d) :
    Calls Try.prog 70 #[.agg #[.int .i64 f.ver, .slice A n c], .agg #[.int .i64 st, .slice B m d], .string x] w fun e w' => e = .returned (.bool (canB f st done x)) ∧ Below w.heap.size w w' := by
  have HO := Lib.hid hok; clear hok
  have HX0 := Lib.hid (heap_old (o := .cells #[.int .i64 st, .slice B m d] 35) (heap_new (w := w) (o := .cells #[.int .i64 f.ver, .slice A n c] 33) rfl))
  have HY0 := Lib.hid (heap_new (w := w.alloc (.cells #[.int .i64 f.ver, .slice A n c] 33)) (b := w.heap.size + 1) (o := .cells #[.int .i64 st, .slice B m d] 35) (by simp))
  have HB0 := Lib.hid (((Below.refl w.heap.size w).alloc (Nat.le_refl _) (.cells #[.int .i64 f.ver, .slice A n c] 33)).alloc (by simp) (.cells #[.int .i64 st, .slice B m d] 35))
  have HR := Lib.hid ((hr.alloc (.cells #[.int .i64 f.ver, .slice A n c] 33)).alloc (.cells #[.int .i64 st, .slice B m d] 35)); clear hr
  have HD := Lib.hid ((hd.alloc (.cells #[.int .i64 f.ver, .slice A n c] 33)).alloc (.cells #[.int .i64 st, .slice B m d] 35)); clear hd
  go_enter Try.func70, Try.ntmps70
  go_wp2_with fail
  refine (runI_any _ _ _ _ _ _ f st done _ _ _ HR.out HO.out HD.out hm hmd).mono ?_
  rintro e w1 ⟨rfl, hb⟩
  have HX1 := Lib.hid ((hb.block _ (heap_lt HX0.out)).trans HX0.out)
  have HY1 := Lib.hid ((hb.block _ (heap_lt HY0.out)).trans HY0.out)
  have HB1 := Lib.hid (HB0.out.trans (hb.mono HB0.out.size))
  have HR1 := Lib.hid (HR.out.below hb)
  have HD1 := Lib.hid (HD.out.below hb)
  clear hb
  have x0 := (blk_cl (k := 0) HX1.out rfl).1
  have x1 := (blk_cl (k := 1) HX1.out rfl).1
  have y0 := (blk_cl (k := 0) HY1.out rfl).1
  have y1 := (blk_cl (k := 1) HY1.out rfl).1
  cases hrun : runB f st done
  · have HE := Lib.hid (show canB f st done x = false by unfold canB; rw [hrun]; rfl)
    go_wp2_with fail
    go_ret
    exact ⟨ret_b HE.out.symm, HB1.out⟩
  by_cases h0 : st = 0
  · subst h0
    have HE := Lib.hid (show canB f 0 done x = hasB (rdyL f.steps done) x by unfold canB; rw [hrun]; simp)
    clear hrun
    go_wp2_with fail
    refine (ready_any _ _ _ _ _ _ f.ver f.steps done _ _ _ HR1.out HO.out HD1.out hm).mono ?_
    rintro e w2 ⟨A2, n2, c2, rfl, h2, hb2⟩
    have hl : n2 ≤ 1048576 := by rw [← h2.1]; exact Nat.le_trans (rdyL_len _ _) HO.out.1
    have HB2 := Lib.hid (HB1.out.trans (hb2.mono HB1.out.size))
    have H2 := Lib.hid h2; clear h2 hb2 x0 x1 y0 y1
    go_wp2_with fail
    refine (contains_any _ _ _ _ x _ _ H2.out hl).mono ?_
    rintro e w3 ⟨rfl, rfl⟩
    go_wp2_with fail
    go_ret
    exact ⟨ret_b HE.out.symm, HB2.out⟩
  · have hq : (st == 0) = false := by rw [beq_eq_false_iff_ne]; exact h0
    have HE := Lib.hid (show canB f st done x = false by unfold canB; rw [hrun]; simp [h0])
    clear hrun
    go_wp2_with fail
    go_ret
    exact ⟨ret_b HE.out.symm, HB1.out⟩

set_option maxRecDepth 100000 in
set_option maxHeartbeats 1000000 in
theorem doI_any (A B : Option Addr) (n c m d : Nat) (f : Flow) (st : Int) (done : List Str) (x : Str) (lo lo' : Nat) (w : World) (hr : RStep w lo A n f.steps) (hok : okSteps f.steps) (hd : RStr w lo' B m done) (hm : m ≤ 1048576) (hmd : m ≤ d) :
    Calls Try.prog 24 #[.agg #[.int .i64 f.ver, .slice A n c], .agg #[.int .i64 st, .slice B m d], .string x] w fun e w' => ∃ B' n' d', e = .returned (.tuple #[.agg #[.int .i64 (doR f st done x).1, .slice B' n' d'], .bool (canB f st done x)]) ∧
      w'.ownsRow w.heap.size 9 1 (.slice B' n' d') n' ((doR f st done x).2.map Value.string) ∧ Below w.heap.size w w' := by
  have hn : n ≤ 1048576 := by have := hok.1; rw [hr.1] at this; exact this
  have HX := Lib.hid (heap_old (o := .cells #[.int .i64 0, .slice none 0 0] 35) (heap_old (o := .cells #[.int .i64 st, .slice B m d] 35) (heap_new (w := w) (o := .cells #[.int .i64 f.ver, .slice A n c] 33) rfl)))
  have HY := Lib.hid (heap_old (o := .cells #[.int .i64 0, .slice none 0 0] 35) (heap_new (w := w.alloc (.cells #[.int .i64 f.ver, .slice A n c] 33)) (b := w.heap.size + 1) (o := .cells #[.int .i64 st, .slice B m d] 35) (by simp)))
  have HZ := Lib.hid (heap_new (w := (w.alloc (.cells #[.int .i64 f.ver, .slice A n c] 33)).alloc (.cells #[.int .i64 st, .slice B m d] 35)) (b := w.heap.size + 1 + 1) (o := .cells #[.int .i64 0, .slice none 0 0] 35) (by simp))
  have HB := Lib.hid ((((Below.refl w.heap.size w).alloc (Nat.le_refl _) (.cells #[.int .i64 f.ver, .slice A n c] 33)).alloc (by simp) (.cells #[.int .i64 st, .slice B m d] 35)).alloc (by simp; omega) (.cells #[.int .i64 0, .slice none 0 0] 35))
  have HR := Lib.hid (((hr.alloc (.cells #[.int .i64 f.ver, .slice A n c] 33)).alloc (.cells #[.int .i64 st, .slice B m d] 35)).alloc (.cells #[.int .i64 0, .slice none 0 0] 35)); clear hr
  have HD := Lib.hid (((hd.alloc (.cells #[.int .i64 f.ver, .slice A n c] 33)).alloc (.cells #[.int .i64 st, .slice B m d] 35)).alloc (.cells #[.int .i64 0, .slice none 0 0] 35)); clear hd
  have HLm := Lib.hid HD.out.1
  have HLn := Lib.hid HR.out.1
  go_enter Try.func24, Try.ntmps24
  go_wp2_with fail
  refine (canI_any _ _ _ _ _ _ f st done x _ _ _ HR.out hok HD.out hm hmd).mono ?_
  rintro e w1 ⟨rfl, hb⟩
  have HX1 := Lib.hid ((hb.block _ (heap_lt HX.out)).trans HX.out)
  have HY1 := Lib.hid ((hb.block _ (heap_lt HY.out)).trans HY.out)
  have HZ1 := Lib.hid ((hb.block _ (heap_lt HZ.out)).trans HZ.out)
  have HB1 := Lib.hid (HB.out.trans (hb.mono HB.out.size))
  have HD1 := Lib.hid (HD.out.below hb)
  clear hb HX HY HZ HB HD
  have hs1 := heap_lt HZ1.out
  have z0 := (blk_cl (k := 0) HZ1.out rfl).1
  have z0' := (blk_cl (k := 0) HZ1.out rfl).2
  have z1 := (blk_cl (k := 1) HZ1.out rfl).1
  have z1' := (blk_cl (k := 1) HZ1.out rfl).2
  cases hcan : canB f st done x
  · have HE := Lib.hid (doR_no hcan)
    go_wp2_with fail
    have hres := set21 (u := .slice none 0 0) (set20 (u := .int .i64 0) HZ1.out)
    have e0 := (blk_cl (k := 0) hres rfl).1
    have e1 := (blk_cl (k := 1) hres rfl).1
    exact bodyPost_ret (v := .tuple #[.agg #[.int .i64 0, .slice none 0 0], .bool false]) (by simp [results, Try.results24, go_sem, e0, e1]) rfl ⟨none, 0, 0, by rw [HE.out, hcan], by rw [HE.out]; exact own_nil, (HB1.out.setCell (p := ⟨w.heap.size + 1 + 1, 0, none⟩) (by show w.heap.size ≤ w.heap.size + 1 + 1; omega) _).setCell (p := ⟨w.heap.size + 1 + 1, 1, none⟩) (by show w.heap.size ≤ w.heap.size + 1 + 1; omega) _⟩
  · have HE := Lib.hid (doR_yes hcan)
    have hle : m + 1 ≤ 1048576 := by
      have h1 := ord_len (can_ord hcan)
      rw [List.length_append, HLm.out, HLn.out] at h1
      have h2 := List.length_singleton (a := x)
      omega
    have HCAN := Lib.hid hcan; clear hcan
    have y0 := (blk_cl (k := 0) HY1.out rfl).1
    have y1 := (blk_cl (k := 1) HY1.out rfl).1
    go_wp2_with fail
    refine (cloneNames_any _ _ _ done _ _ HD1.out hm).mono ?_
    rintro e w3 ⟨v3, rfl, how3⟩
    have hb3 := how3.below
    have HX3 := Lib.hid ((hb3.block _ (heap_lt HX1.out)).trans HX1.out)
    have HZ3 := Lib.hid ((hb3.block _ (heap_lt HZ1.out)).trans HZ1.out)
    have HB3 := Lib.hid (HB1.out.trans (hb3.mono HB1.out.size))
    have HO3 := Lib.hid how3; clear how3 hb3
    have HN3x := Lib.hid (row_ne HO3.out.row HX3.out (by decide))
    have HN3z := Lib.hid (row_ne HO3.out.row HZ3.out (by decide))
    clear y0 y1 z0 z0' z1 z1'
    go_wp2_with (at_builtin; refine app_str w1 _ m done _ x ?c0 rfl (.tmp 17) (.tmp 19) rfl rfl rfl ?c1 (by omega) ?_)
    case c0 => exact HO3.out.alloc _
    case c1 => exact heap_new rfl
    intro v5 w5 how5 hg5
    replace how5 : Own 9 1 w1 w5 v5 (m + 1) ((done ++ [x]).map Value.string) := by rw [List.map_append]; exact how5
    have HX5 := Lib.hid (grown_blk hg5 (heap_old HX3.out) HN3x.out)
    have HZ5 := Lib.hid (grown_blk hg5 (heap_old HZ3.out) HN3z.out)
    obtain ⟨A5, c5, rfl, hrow5⟩ := own_str how5.row
    have HROW := Lib.hid hrow5; clear hrow5
    have HO5 := Lib.hid how5.row
    have HB5 := Lib.hid (HB1.out.trans (how5.below.mono HB1.out.size)); clear how5 hg5
    have x0 := (blk_cl (k := 0) HX5.out rfl).1
    have x1 := (blk_cl (k := 1) HX5.out rfl).1
    go_wp2_with fail
    refine (forth_any _ _ _ _ _ _ f.ver _).mono ?_
    rintro e w6 ⟨rfl, hb6⟩
    have HZ6 := Lib.hid ((hb6.block _ (heap_lt HZ5.out)).trans HZ5.out)
    have HB6 := Lib.hid (HB5.out.trans (hb6.mono HB5.out.size))
    have HO6 := Lib.hid (row_below HO5.out hb6)
    clear hb6 x0 x1
    have HE2 := Lib.hid (show doR f st done x = (forthI (m + 1) n, done ++ [x]) by rw [HE.out, HLm.out, HLn.out])
    generalize forthI (m + 1) n = z at *
    have z0 := (blk_cl (k := 0) HZ6.out rfl).1
    have z0' := (blk_cl (k := 0) HZ6.out rfl).2
    have z1 := (blk_cl (k := 1) HZ6.out rfl).1
    have z1' := (blk_cl (k := 1) HZ6.out rfl).2
    go_wp2_with fail
    have hres := set21 (u := .slice A5 (m + 1) c5) (set20 (u := .int .i64 z) HZ6.out)
    have e0 := (blk_cl (k := 0) hres rfl).1
    have e1 := (blk_cl (k := 1) hres rfl).1
    have hbl := (HB6.out.setCell (p := ⟨w.heap.size + 1 + 1, 0, none⟩) (by show w.heap.size ≤ w.heap.size + 1 + 1; omega) (.int .i64 z)).setCell (p := ⟨w.heap.size + 1 + 1, 1, none⟩) (by show w.heap.size ≤ w.heap.size + 1 + 1; omega) (.slice A5 (m + 1) c5)
    exact bodyPost_ret (v := .tuple #[.agg #[.int .i64 z, .slice A5 (m + 1) c5], .bool true]) (by simp [results, Try.results24, go_sem, e0, e1]) rfl ⟨_, _, _, by rw [HE2.out, HCAN.out], by rw [HE2.out]; exact row_mono (row_set (row_set HO6.out HZ6.out (by decide)) (set20 HZ6.out) (by decide)) HB1.out.size, hbl⟩
end Go.Proofs.Ythcpjkhijjkolaa

/- FnRunTextDo: the walk. -/
namespace Go.Proofs.Ythcpjkhijjkolaa
open Go.RowKit

theorem run_do {f : Flow} {st : Int} {done : List Str} {x : Str} (h : canB f st done x = true) : runB f (forthI (done.length + 1) f.steps.length) (done ++ [x]) = true := by
  have h1 := can_ord h
  have h2 := ord_len h1
  have h3 : (done ++ [x]).length = done.length + 1 := by simp
  rw [h3] at h2
  unfold runB
  rw [run_flow (can_goes h).2.1, h1, h3]
  unfold forthI
  by_cases e : done.length + 1 = f.steps.length
  · rw [if_pos e]; simp [e]
  · rw [if_neg e]; simp; omega
theorem last_snoc (done : List Str) (x : Str) : lastS (done ++ [x]) = x := by
  unfold lastS
  rw [if_neg (by simp), nth_eq (by simp)]
  simp

set_option maxRecDepth 100000 in
set_option maxHeartbeats 4000000 in
theorem fnRunTextDo_any (A : Option Addr) (n c : Nat) (w : World) (hr : RByte w A n) (hc : n ≤ c) :
    Calls Try.prog 5 #[.slice A n c] w fun e w' => e = .returned (.bool true) ∧ Below w.heap.size w w' := by
  have HR := Lib.hid hr; clear hr
  by_cases hn : 1048576 < n
  · go_enter Try.func5, Try.ntmps5
    go_wp2_with fail
    go_ret
    exact ⟨rfl, Below.refl _ _⟩
  go_enter Try.func5, Try.ntmps5
  go_wp2_with fail
  refine (drawRunText_any _ _ _ _ HR.out hc (by omega)).mono ?_
  rintro e w1 ⟨f, A1, n1, c1, st, B1, m1, d1, xs, rfl, hs, hok, h1, h6, hxs, hmd, hm9, hb1⟩
  have HOK := Lib.hid hok; clear hok
  have HL := Lib.hid hxs.1
  have HS1 := Lib.hid ((hs.alloc (.cells #[.int .i64 f.ver, .slice A1 n1 c1] 33)).alloc (.cells #[.int .i64 st, .slice B1 m1 d1] 35)); clear hs
  have HD1 := Lib.hid ((hxs.alloc (.cells #[.int .i64 f.ver, .slice A1 n1 c1] 33)).alloc (.cells #[.int .i64 st, .slice B1 m1 d1] 35)); clear hxs
  have HB1 := Lib.hid ((hb1.alloc hb1.size (.cells #[.int .i64 f.ver, .slice A1 n1 c1] 33)).alloc (Nat.le_trans hb1.size (by simp)) (.cells #[.int .i64 st, .slice B1 m1 d1] 35)); clear hb1
  have HX1 := Lib.hid (heap_old (o := .cells #[.int .i64 st, .slice B1 m1 d1] 35) (heap_new (w := w1) (o := .cells #[.int .i64 f.ver, .slice A1 n1 c1] 33) rfl))
  have HY1 := Lib.hid (heap_new (w := w1.alloc (.cells #[.int .i64 f.ver, .slice A1 n1 c1] 33)) (b := w1.heap.size + 1) (o := .cells #[.int .i64 st, .slice B1 m1 d1] 35) (by simp))
  go_wp2_with fail
  refine (runTextI_any _ _ _ _ _ _ f st xs _ _ _ HS1.out HOK.out HD1.out (by omega) hmd).mono ?_
  rintro e w2 ⟨rfl, hb2⟩
  have HX2 := Lib.hid ((hb2.block _ (heap_lt HX1.out)).trans HX1.out)
  have HY2 := Lib.hid ((hb2.block _ (heap_lt HY1.out)).trans HY1.out)
  have HB2 := Lib.hid (HB1.out.trans (hb2.mono HB1.out.size))
  have HS2 := Lib.hid (HS1.out.below hb2)
  have HD2 := Lib.hid (HD1.out.below hb2)
  clear hb2
  have x0 := (blk_cl (k := 0) HX2.out rfl).1
  have x1 := (blk_cl (k := 1) HX2.out rfl).1
  have y0 := (blk_cl (k := 0) HY2.out rfl).1
  have y1 := (blk_cl (k := 1) HY2.out rfl).1
  go_wp2_with fail
  refine (runTextS_any _ _ _ _ _ _ f st xs _ _ _ HS2.out HOK.out HD2.out (by omega) hmd).mono ?_
  rintro e w3 ⟨rfl, hb3⟩
  have HSX := Lib.hid (HS2.out.below hb3)
  have HXX := Lib.hid ((hb3.block _ (heap_lt HX2.out)).trans HX2.out)
  have HY3 := Lib.hid ((hb3.block _ (heap_lt HY2.out)).trans HY2.out)
  have HB3 := Lib.hid (HB2.out.trans (hb3.mono HB2.out.size))
  have HD3 := Lib.hid (HD2.out.below hb3)
  clear hb3 x0 x1 y0 y1 HX1 HX2 HS1 HS2 HY1 HY2 HD1 HD2
  have hq0 : ((rtT f st xs).toList != (rtT f st xs).toList) = false := by simp
  have hq9 : ((rtT f st xs).toList == (rtT f st xs).toList) = true := by simp
  have y0 := (blk_cl (k := 0) HY3.out rfl).1
  have y1 := (blk_cl (k := 1) HY3.out rfl).1
  cases hrun : runB f st xs
  · rw [rtT_no hrun]
    clear hrun hq0 hq9
    go_wp2_with fail
    go_ret
    exact ⟨rfl, HB3.out⟩
  have hne : rtT f st xs ≠ ⟨#[]⟩ := by
    rw [rtT_yes hrun]
    obtain ⟨hlt, _⟩ := rt_end st xs
    exact emp_ne (by omega)
  have hq1 := sem_t hne
  clear hne
  generalize rtT f st xs = y at *
  by_cases h0 : st = 0
  case neg =>
    have hq : (st == 0) = false := by rw [beq_eq_false_iff_ne]; exact h0
    clear hrun
    go_wp2_with fail
    go_ret
    exact ⟨rfl, HB3.out⟩
  subst h0
  obtain ⟨x, r, hx⟩ := run_next hrun
  have HRUN := Lib.hid hrun; clear hrun
  have x0 := (blk_cl (k := 0) HXX.out rfl).1
  have x1 := (blk_cl (k := 1) HXX.out rfl).1
  go_wp2_with fail
  refine (runNext0_any _ _ _ _ _ _ f xs _ _ _ HSX.out HOK.out HD3.out (by omega) hmd HRUN.out).mono ?_
  rintro e w4 ⟨A4, n4, c4, rfl, h4, hb4⟩
  have HX4 := Lib.hid ((hb4.block _ (heap_lt HXX.out)).trans HXX.out)
  have HY4 := Lib.hid ((hb4.block _ (heap_lt HY3.out)).trans HY3.out)
  have HB4 := Lib.hid (HB3.out.trans (hb4.mono HB3.out.size))
  have HD4 := Lib.hid (HD3.out.below hb4)
  have HS4 := Lib.hid (HSX.out.below hb4)
  clear hb4 x0 x1 y0 y1 HXX HY3 HB3 HD3 HSX
  rw [hx] at h4
  have hn4 : 1 ≤ n4 := by rw [← h4.1]; simp
  have hcan : canB f 0 xs x = true := by unfold canB; rw [HRUN.out, hasB_true.2 (by rw [hx]; simp)]; rfl
  obtain ⟨b, off, rfl, ⟨_, hbl⟩, hcc⟩ := RStr.at_ h4 (show 0 < n4 by omega)
  have z0 := (hcc 0 (by omega)).1
  rw [show nth (x :: r) 0 = x from rfl, Nat.add_zero] at z0
  clear hcc hx h4
  have hn40 : ((n4 : Int) == 0) = false := by rw [beq_eq_false_iff_ne]; omega
  have HCAN := Lib.hid hcan; clear hcan
  have x0 := (blk_cl (k := 0) HX4.out rfl).1
  have x1 := (blk_cl (k := 1) HX4.out rfl).1
  have y0 := (blk_cl (k := 0) HY4.out rfl).1
  have y1 := (blk_cl (k := 1) HY4.out rfl).1
  go_wp2_with fail
  have z9 := Lib.hid z0
  have hn4i : (0 : Int) < (n4 : Int) := by omega
  have hn4j : 0 < n4 := by omega
  have HSB : Hid (∀ w', Below w4.heap.size w4 w' → ((w'.cell? ⟨w1.heap.size, 0, none⟩ = some (.int .i64 f.ver) ∧ w'.cell? ⟨w1.heap.size, 1, none⟩ = some (.slice A1 n1 c1)) ∧ (w'.cell? ⟨w1.heap.size + 1, 0, none⟩ = some (.int .i64 0) ∧ w'.cell? ⟨w1.heap.size + 1, 1, none⟩ = some (.slice B1 m1 d1)) ∧ w'.cell? ⟨b, off, none⟩ = some (.string x)) ∧ Below w4.heap.size w4 w') := fun w' h => by
    have e1 := (h.block _ (heap_lt HX4.out)).trans HX4.out
    have e2 := (h.block _ (heap_lt HY4.out)).trans HY4.out
    exact ⟨⟨⟨(blk_cl (k := 0) e1 rfl).1, (blk_cl (k := 1) e1 rfl).1⟩, ⟨(blk_cl (k := 0) e2 rfl).1, (blk_cl (k := 1) e2 rfl).1⟩, (h.cell (p := ⟨b, off, none⟩) hbl).trans z0⟩, h⟩
  go_region_held3 (fun w' => ((w'.cell? ⟨w1.heap.size, 0, none⟩ = some (.int .i64 f.ver) ∧ w'.cell? ⟨w1.heap.size, 1, none⟩ = some (.slice A1 n1 c1)) ∧ (w'.cell? ⟨w1.heap.size + 1, 0, none⟩ = some (.int .i64 0) ∧ w'.cell? ⟨w1.heap.size + 1, 1, none⟩ = some (.slice B1 m1 d1)) ∧ w'.cell? ⟨b, off, none⟩ = some (.string x)) ∧ Below w4.heap.size w4 w')
    ((refine HSB.out _ ?_; (repeat (first | with_reducible exact hbw | with_reducible exact Below.refl _ _ | apply Below.drew | apply Below.al_ | refine Below.setCell ?_ (by first | exact Nat.le_refl _ | exact hbw.size) _ | fail "x")); done))
    (first | (go_at_call 24; refine (doI_any _ _ _ _ _ _ f 0 xs x _ _ _ (HS4.out.below (by repeat (first | with_reducible exact Below.refl _ _ | apply Below.drew | apply Below.al_))) HOK.out (HD4.out.below (by repeat (first | with_reducible exact Below.refl _ _ | apply Below.drew | apply Below.al_))) ?_ hmd).mono ?_; (· omega); rintro e w5 ⟨B5, n5, d5, rfl, ho5, hb5⟩; have hz5 := (hb5.block w4.heap.size (by simp)).trans (heap_new (w := w4) (b := w4.heap.size) (o := .cells #[.int .i64 0, .slice none 0 0] 35) rfl); have q0 := (blk_cl (k := 0) hz5 rfl).1; have q0' := (blk_cl (k := 0) hz5 rfl).2; have q1 := (blk_cl (k := 1) hz5 rfl).1; have q1' := (blk_cl (k := 1) hz5 rfl).2; have hbw : Below w4.heap.size w4 w5 := (Below.al_ (Below.refl w4.heap.size w4).drew _).trans (hb5.mono (by simp))) | (go_at_call 24; refine (doI_any _ _ _ _ _ _ f 0 xs x _ _ _ (HS4.out.below (by repeat (first | with_reducible exact Below.refl _ _ | apply Below.drew | apply Below.al_))) HOK.out (HD4.out.below (by repeat (first | with_reducible exact Below.refl _ _ | apply Below.drew | apply Below.al_))) ?_ hmd).mono ?_; (· omega); rintro e w5 ⟨B5, n5, d5, rfl, ho5, hb5⟩; have hbw : Below w4.heap.size w4 w5 := (Below.refl w4.heap.size w4).drew.trans hb5) | fail "no arm")
  · have hbox := heap_new (w := w5) (o := .cells #[.int .i64 (doR f 0 xs x).1, .slice B5 n5 d5] 35) rfl
    have hb6 : Below w4.heap.size w4 (w5.alloc (.cells #[.int .i64 (doR f 0 xs x).1, .slice B5 n5 d5] 35)) := Below.al_ hbw _
    have hrow := ho5.alloc (.cells #[.int .i64 (doR f 0 xs x).1, .slice B5 n5 d5] 35)
    generalize w5.alloc (.cells #[.int .i64 (doR f 0 xs x).1, .slice B5 n5 d5] 35) = w6 at *
    generalize w5.heap.size = p at *
    have hcap := own_capN hrow
    obtain ⟨_, _, e9, hrs⟩ := own_str hrow
    injection e9 with e7 _ e8
    subst e7 e8
    rw [doR_yes HCAN.out] at hrs hbox
    have hn5 : n5 = m1 + 1 := by rw [← hrs.1, List.length_append, HL.out]; rfl
    subst hn5
    have HRUN6 := Lib.hid (run_do HCAN.out)
    generalize forthI (xs.length + 1) f.steps.length = z at *
    have HRS := Lib.hid hrs; clear hrs hrow
    have HB6 := Lib.hid hb6; clear hb6
    have HBX := Lib.hid hbox; clear hbox
    obtain ⟨⟨⟨u0, u1⟩, _, u4⟩, _⟩ := HSB.out _ HB6.out
    have p0 := (blk_cl (k := 0) HBX.out rfl).1
    have p1 := (blk_cl (k := 1) HBX.out rfl).1
    clear x0 x1 y0 y1 z0 HSB
    go_wp2_with fail
    refine (runTextI_any _ _ _ _ _ _ f z (xs ++ [x]) _ _ _ (HS4.out.below HB6.out) HOK.out HRS.out (by omega) hcap).mono ?_
    rintro e w7 ⟨rfl, hb7⟩
    have HB7 := Lib.hid (HB6.out.trans (hb7.mono HB6.out.size))
    have u9 := (HB7.out.cell (p := ⟨b, off, none⟩) hbl).trans z9.out
    clear u0 u1 u4 p0 p1 hb7
    rw [rtT_yes HRUN6.out]
    obtain ⟨hlt, hext⟩ := rt_end z (xs ++ [x])
    rw [last_snoc] at hlt hext
    have hsz : (rtS z (xs ++ [x])).size ≤ 100 := by
      obtain ⟨h8, hnm⟩ := run_sizes HRUN6.out
      have h1 := namesS_size8 h8 hnm
      have h2 := stateS_size z
      unfold rtS
      rw [bsz_app, bsz_app]
      show _ + 1 + _ ≤ 100
      omega
    have hcan := HCAN.out
    generalize rtS z (xs ++ [x]) = y2 at *
    have hq2 : (x.toList == x.toList) = true := by simp
    have g1 : decide ((x.size : Int) < (y2.size : Int)) = true := by rw [decide_eq_true_iff]; omega
    have g2 : decide (x.size < y2.size) = true := by rw [decide_eq_true_iff]; omega
    rw [hcan]
    go_wp2_with fail
    go_quiet (fail)
    go_wp2_with fail
    go_ret
    exact ⟨rfl, HB4.out.trans ((below_drewN HB7.out _).mono HB4.out.size)⟩
  · have hbox := set21 (u := .slice B5 n5 d5) (set20 (u := .int .i64 (doR f 0 xs x).1) hz5)
    have hb6 : Below w4.heap.size w4 ((w5.setCell ⟨w4.heap.size, 0, none⟩ (.int .i64 (doR f 0 xs x).1)).setCell ⟨w4.heap.size, 1, none⟩ (.slice B5 n5 d5)) := (hbw.setCell (p := ⟨w4.heap.size, 0, none⟩) (Nat.le_refl _) _).setCell (p := ⟨w4.heap.size, 1, none⟩) (Nat.le_refl _) _
    have hrow := row_set (o := 1) (u := .slice B5 n5 d5) (row_set (o := 0) (u := .int .i64 (doR f 0 xs x).1) ho5 hz5 (by decide)) (set20 hz5) (by decide)
    generalize (w5.setCell ⟨w4.heap.size, 0, none⟩ (.int .i64 (doR f 0 xs x).1)).setCell ⟨w4.heap.size, 1, none⟩ (.slice B5 n5 d5) = w6 at *
    have hcap := own_capN hrow
    obtain ⟨_, _, e9, hrs⟩ := own_str hrow
    injection e9 with e7 _ e8
    subst e7 e8
    rw [doR_yes HCAN.out] at hrs hbox
    have hn5 : n5 = m1 + 1 := by rw [← hrs.1, List.length_append, HL.out]; rfl
    subst hn5
    have HRUN6 := Lib.hid (run_do HCAN.out)
    generalize forthI (xs.length + 1) f.steps.length = z at *
    have HRS := Lib.hid hrs; clear hrs hrow
    have HB6 := Lib.hid hb6; clear hb6
    have HBX := Lib.hid hbox; clear hbox
    obtain ⟨⟨⟨u0, u1⟩, _, u4⟩, _⟩ := HSB.out _ HB6.out
    have p0 := (blk_cl (k := 0) HBX.out rfl).1
    have p1 := (blk_cl (k := 1) HBX.out rfl).1
    clear x0 x1 y0 y1 z0 HSB
    go_wp2_with fail
    refine (runTextI_any _ _ _ _ _ _ f z (xs ++ [x]) _ _ _ (HS4.out.below HB6.out) HOK.out HRS.out (by omega) hcap).mono ?_
    rintro e w7 ⟨rfl, hb7⟩
    have HB7 := Lib.hid (HB6.out.trans (hb7.mono HB6.out.size))
    have u9 := (HB7.out.cell (p := ⟨b, off, none⟩) hbl).trans z9.out
    clear u0 u1 u4 p0 p1 hb7
    rw [rtT_yes HRUN6.out]
    obtain ⟨hlt, hext⟩ := rt_end z (xs ++ [x])
    rw [last_snoc] at hlt hext
    have hsz : (rtS z (xs ++ [x])).size ≤ 100 := by
      obtain ⟨h8, hnm⟩ := run_sizes HRUN6.out
      have h1 := namesS_size8 h8 hnm
      have h2 := stateS_size z
      unfold rtS
      rw [bsz_app, bsz_app]
      show _ + 1 + _ ≤ 100
      omega
    have hcan := HCAN.out
    generalize rtS z (xs ++ [x]) = y2 at *
    have hq2 : (x.toList == x.toList) = true := by simp
    have g1 : decide ((x.size : Int) < (y2.size : Int)) = true := by rw [decide_eq_true_iff]; omega
    have g2 : decide (x.size < y2.size) = true := by rw [decide_eq_true_iff]; omega
    rw [hcan]
    go_wp2_with fail
    go_quiet (fail)
    go_wp2_with fail
    go_ret
    exact ⟨rfl, HB4.out.trans ((below_drewN HB7.out _).mono HB4.out.size)⟩
end Go.Proofs.Ythcpjkhijjkolaa

/- FnRunTextDo returns true at every input, and leaves its arguments as they were. No condition. -/
namespace Go.Proofs.Ythcpjkhijjkolaa
open Go.ChangeShapes Go.WideShapes Go.ChangeAt Go.RowKit

set_option maxRecDepth 100000 in
theorem fnRunTextDo_lifted (os : Os) (started : os.Started) (H : Type) (enc : TypeId × Value → H) :
    ReturnsInHanded {} Try.checked os 5 .any (Rows.fnRunTextDoSpec.pre6 enc Try.prog Try.f5 Rows.fnRunTextDoRow.domain false) (Rows.fnRunTextDoSpec.post enc Try.prog Try.f5 false true false false) := by
  refine returnsInHanded_of_change (C := Try.checked) Try.own started (by kernel_rfl) Try.func5
    (ChangeSpec.witness6 (enc := enc) (C := Try.checked) false ⟨#[], #[.slice none 0 0], []⟩ 8 (by kernel_rfl) (by kernel_rfl) (by kernel_rfl) (by kernel_rfl)) ?_
  intro W base args ds gs before hval0 hW hcnd _
  have hval : ∀ (j : Nat) t v, Try.f5.params[j]? = some t → args[j]? = some v → Value.okWide Try.prog W .any base t v := hval0
  have hW' := hW
  obtain ⟨p, q, hA0, hV, rfl, hfz, hnd⟩ := hW
  have hA : DataW.TrodAll enc Try.prog W 0 (fun _ => true) true Try.f5.params.toList args.toList ds p := hA0
  rw [Try.params5] at hA hval
  obtain ⟨v0, d0, rfl, rfl, h0⟩ := trodAll_one hA
  obtain ⟨rfl, rfl⟩ := trodVars_none hV
  have h0k := h0
  obtain ⟨a0, len, cap, rfl⟩ := okWide_slice Try.underlying40 (hval 0 40 v0 rfl rfl)
  obtain ⟨fuel, hf⟩ := h0
  clear hA0 hval0 hA
  simp only [List.append_nil] at hW' hfz
  have hlt : ∀ x ∈ p, x.block < W.heap.size := fun x hx => by simpa using hW'.lt x hx
  obtain ⟨hr, hc, _⟩ := open_code hf
  refine (fnRunTextDo_any a0 len cap W hr hc).mono fun e W' ⟨he, hb⟩ => ?_
  subst he
  exact ⟨_, rfl, post_law hW' rfl (by kernel_rfl) Try.underlying4 rfl rfl rfl (trodAll_mk1 (Below.trod Try.laidOut (by kernel_rfl) (of_decide_eq_true (by kernel_rfl)) h0k hb hlt)) hb⟩

theorem fnRunTextDo_holds : Rows.FnRunTextDoSaid :=
  OpenClaim.holds_of_wide 5 Try.f5 rfl rfl rfl rfl rfl rfl rfl ⟨rfl, rfl, rfl, rfl, rfl⟩ rfl rfl rfl rfl rfl (by kernel_rfl) Try.func5 (by kernel_rfl)
    (of_decide_eq_true (by kernel_rfl)) (by unfold Func.isWrapper; rw [if_neg (by decide +kernel)]; exact ⟨rfl, rfl⟩)
    (fun os started H enc _ => fnRunTextDo_lifted os started H enc)
end Go.Proofs.Ythcpjkhijjkolaa
