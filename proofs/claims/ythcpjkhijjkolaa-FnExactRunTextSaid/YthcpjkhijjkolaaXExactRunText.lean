/- FnExactRunText returns true at every input, and leaves its arguments as they were. No condition. -/
import Derived.Test.YthcpjkhijjkolaaShelf
import Derived.Lib.Join
import Derived.Deep.RegionHeld3
import Derived.Test.YthcpjkhijjkolaaZA
import Derived.Test.YthcpjkhijjkolaaZC
import Derived.Test.YthcpjkhijjkolaaZB
import Derived.Test.YthcpjkhijjkolaaZD

/- Texts of steps: both. -/
namespace Go.Proofs.Ythcpjkhijjkolaa
open Go.RowKit

/-- The first k names with commas between them. -/
def jnS (xs : List Str) : Nat → Str
  | 0 => ⟨#[]⟩
  | k + 1 => (if 0 < k then jnS xs k ++ ⟨#[44]⟩ else jnS xs k) ++ nth xs k
def namesS (xs : List Str) : Str := if xs.length = 0 then ⟨#[45]⟩ else jnS xs xs.length
def stepS (s : Step) : Str := if s.undo then s.name ++ ⟨#[58]⟩ ++ namesS s.after else (s.name ++ ⟨#[58]⟩ ++ namesS s.after) ++ ⟨#[33]⟩
def textS (s : Step) : Str := if stepB s then stepS s else ⟨#[]⟩

theorem bl_app (a b : Str) : (a ++ b).data.toList = a.data.toList ++ b.data.toList := by simp
theorem bsz_app (a b : Str) : (a ++ b).size = a.size + b.size := by simp
theorem join_snoc (l : List (List UInt8)) (z sep : List UInt8) (h : l ≠ []) : Lib.join (l ++ [z]) sep = Lib.join l sep ++ sep ++ z := by
  cases l with
  | nil => exact absurd rfl h
  | cons x r =>
    rw [List.cons_append, Lib.join_cons, Lib.join_cons]
    simp [Lib.joinTail]
theorem jnS_list {xs : List Str} : ∀ k, k < xs.length → (jnS xs (k + 1)).data.toList = Lib.join ((xs.take (k + 1)).map (·.data.toList)) [44]
  | 0, h => by
    rw [take_nth h]
    show (jnS xs 0 ++ nth xs 0).data.toList = _
    rw [bl_app]
    simp [Lib.join_one, jnS]
  | k + 1, h => by
    rw [take_nth h, List.map_append]
    show ((if 0 < k + 1 then jnS xs (k + 1) ++ ⟨#[44]⟩ else jnS xs (k + 1)) ++ nth xs (k + 1)).data.toList = _
    rw [if_pos (by omega), bl_app, bl_app, jnS_list k (by omega)]
    have hne : (xs.take (k + 1)).map (·.data.toList) ≠ [] := by
      intro e
      have h2 : ((xs.take (k + 1)).map (·.data.toList)).length = 0 := by rw [e]; rfl
      rw [List.length_map, List.length_take] at h2
      omega
    show _ = Lib.join ((xs.take (k + 1)).map (·.data.toList) ++ [(nth xs (k + 1)).data.toList]) [44]
    rw [join_snoc _ _ _ hne]
theorem jnS_join {xs : List Str} (h : 0 < xs.length) : (⟨(Lib.join (xs.map (·.data.toList)) [44]).toArray⟩ : Str) = jnS xs xs.length := by
  have := jnS_list (xs := xs) (xs.length - 1) (by omega)
  rw [show xs.length - 1 + 1 = xs.length by omega, List.take_length] at this
  rw [← this]
theorem jnS_size {xs : List Str} {m : Nat} (h : ∀ j, j < xs.length → (nth xs j).size ≤ m) : ∀ k, k ≤ xs.length → (jnS xs k).size ≤ k * (m + 1)
  | 0, _ => Nat.zero_le _
  | k + 1, hk => by
    have h1 := jnS_size h k (by omega)
    have h2 := h k (by omega)
    show ((if 0 < k then jnS xs k ++ ⟨#[44]⟩ else jnS xs k) ++ nth xs k).size ≤ _
    rw [bsz_app, Nat.succ_mul]
    have h3 : (⟨#[44]⟩ : Str).size = 1 := rfl
    split
    · rw [bsz_app]; omega
    · omega

set_option maxRecDepth 100000 in
theorem namesTextI_any (A : Option Addr) (n c : Nat) (xs : List Str) (lo : Nat) (w : World) (hr : RStr w lo A n xs) (hc : n ≤ c) (hn : n ≤ 1000) (hs : ∀ j, j < n → (nth xs j).size ≤ 1000) :
    Calls Try.prog 65 #[.slice A n c] w fun e w' => e = .returned (.string (namesS xs)) ∧ Below w.heap.size w w' := by
  have HR := Lib.hid hr; clear hr
  have HS := Lib.hid hs; clear hs
  by_cases h0 : n < 1
  · have hz : ((n : Int) == 0) = true := by rw [beq_iff_eq]; omega
    have HE := Lib.hid (show namesS xs = ⟨#[45]⟩ by unfold namesS; rw [if_pos (by rw [HR.out.1]; omega)])
    go_enter Try.func65, Try.ntmps65
    go_wp2_with fail
    go_ret
    exact ⟨ret_s HE.out.symm, Below.refl _ _⟩
  · have hz : ((n : Int) == 0) = false := by rw [beq_eq_false_iff_ne]; omega
    obtain ⟨b, off, rfl, ⟨_, hb⟩, hcs⟩ := RStr.at_ HR.out (k := 0) (by omega)
    have hl := HR.out.1
    subst hl
    have HE := Lib.hid (show namesS xs = jnS xs xs.length by unfold namesS; rw [if_neg (by omega)])
    have HJ := Lib.hid (jnS_join (xs := xs) (by omega))
    have HCS : Hid (∀ (j : Nat) x, xs[j]? = some x → w.cell? ⟨b, off + j, none⟩ = some (.string x)) := fun j x hx => by
      obtain ⟨hj, e⟩ := List.getElem?_eq_some_iff.1 hx
      have := (hcs j hj).1
      rw [nth_eq hj, e] at this
      exact this
    clear hcs
    have HLEN : Hid ((Lib.join (xs.map (·.data.toList)) [44]).length ≤ 140737488355328) := by
      have h1 := jnS_size (xs := xs) (m := 1000) HS.out xs.length (Nat.le_refl _)
      rw [← HJ.out] at h1
      have h2 : xs.length * 1001 ≤ 1000 * 1001 := Nat.mul_le_mul_right _ hn
      have h3 : (⟨(Lib.join (xs.map (·.data.toList)) [44]).toArray⟩ : Str).size = (Lib.join (xs.map (·.data.toList)) [44]).length := by simp [ByteArray.size]
      rw [h3] at h1
      show _ ≤ 140737488355328
      omega
    go_enter Try.func65, Try.ntmps65
    go_wp2_with fail
    refine (Try.strings_Join b off c xs ⟨#[44]⟩ _ HCS.out hb (by omega) hc HLEN.out).mono ?_
    rintro e w1 ⟨rfl, hb1⟩
    have HB1 := Lib.hid hb1; clear hb1
    rw [show (Lib.join (xs.map (·.data.toList)) (⟨#[44]⟩ : ByteArray).data.toList) = Lib.join (xs.map (·.data.toList)) [44] from rfl, HJ.out]
    go_wp2_with fail
    go_ret
    exact ⟨ret_s HE.out.symm, HB1.out⟩

set_option maxRecDepth 100000 in
theorem l41Names_any (A : Option Addr) (n c : Nat) (xs : List Str) (lo : Nat) (w : World) (hr : RStr w lo A n xs) (hn : n ≤ 1000) (hs : ∀ j, j < n → (nth xs j).size ≤ 1000) :
    Calls Try.prog 61 #[.slice A n c] w fun e w' => e = .returned (.string (namesS xs)) ∧ w = w' := by
  have HR := Lib.hid hr; clear hr
  have HS := Lib.hid hs; clear hs
  by_cases h0 : n < 1
  · have hz : ((n : Int) == 0) = true := by rw [beq_iff_eq]; omega
    have HE := Lib.hid (show namesS xs = ⟨#[45]⟩ by unfold namesS; rw [if_pos (by rw [HR.out.1]; omega)])
    go_enter Try.func61, Try.ntmps61
    go_wp2_with fail
    go_ret
    exact ⟨ret_s HE.out.symm, rfl⟩
  · have hz : ((n : Int) == 0) = false := by rw [beq_eq_false_iff_ne]; omega
    have HE := Lib.hid (show namesS xs = jnS xs n by unfold namesS; rw [if_neg (by rw [HR.out.1]; omega), HR.out.1])
    go_enter Try.func61, Try.ntmps61
    go_wp2_with fail
    go_loop [3, 4] (fun o i => ∃ k : Nat, k ≤ n ∧ i = .int .i64 k ∧ o = .string (jnS xs k)) (fun _ i => n - (intOf i).toNat)
    case atStart => exact ⟨0, Nat.zero_le _, rfl, rfl⟩
    case round =>
      obtain ⟨k, hk, rfl, rfl⟩ := hrel
      by_cases hlt : k < n
      · obtain ⟨b, off, rfl, _, hcs⟩ := RStr.at_ HR.out hlt
        have c1 := (hcs k hlt).1
        clear hcs
        have q1 : (jnS xs k).size ≤ 1001000 := by
          have h1 := jnS_size (xs := xs) (m := 1000) (fun j hj => HS.out j (by rw [← HR.out.1]; exact hj)) k (by rw [HR.out.1]; omega)
          have h2 : k * 1001 ≤ 1000 * 1001 := Nat.mul_le_mul_right _ (by omega)
          omega
        have q2 := HS.out k hlt
        have HJ := Lib.hid (show jnS xs (k + 1) = (if 0 < k then jnS xs k ++ ⟨#[44]⟩ else jnS xs k) ++ nth xs k from rfl)
        by_cases hk0 : 0 < k
        · have hki : decide ((0 : Int) < (k : Int)) = true := by simp; omega
          have hkn : decide (0 < k) = true := by simp; omega
          go_wp2_with fail
          go_round
          case rel => exact ⟨k + 1, by omega, by go_num, by rw [HJ.out, if_pos hk0]⟩
          case measure => simp [intOf]; omega
        · have hki : decide ((0 : Int) < (k : Int)) = false := by simp; omega
          have hkn : decide (0 < k) = false := by simp; omega
          go_wp2_with fail
          go_round
          case rel => exact ⟨k + 1, by omega, by go_num, by rw [HJ.out, if_neg hk0]⟩
          case measure => simp [intOf]; omega
      · obtain rfl : k = n := by omega
        go_wp2_with fail
        go_ret
        exact ⟨ret_s HE.out.symm, rfl⟩

theorem namesS_size {xs : List Str} (h4 : xs.length ≤ 4) (h : ∀ j, j < xs.length → nameB (nth xs j) = true) : (namesS xs).size ≤ 24 := by
  unfold namesS
  split
  · show 1 ≤ 24; omega
  · have := jnS_size (xs := xs) (m := 5) (fun j hj => by
      have := h j hj
      unfold nameB at this
      simp only [Bool.and_eq_true, decide_eq_true_eq] at this
      omega) xs.length (Nat.le_refl _)
    have h2 : xs.length * (5 + 1) ≤ 4 * 6 := Nat.mul_le_mul_right _ h4
    omega
theorem nameB_size {s : Str} (h : nameB s = true) : 1 ≤ s.size ∧ s.size ≤ 5 := by
  unfold nameB at h
  simp only [Bool.and_eq_true, decide_eq_true_eq] at h
  omega
theorem stepB_sizes {s : Step} (h : stepB s = true) : s.after.length ≤ 4 ∧ (1 ≤ s.name.size ∧ s.name.size ≤ 5) ∧ ∀ j, j < s.after.length → nameB (nth s.after j) = true := by
  unfold stepB at h
  simp only [Bool.and_eq_true, decide_eq_true_eq] at h
  refine ⟨h.2, nameB_size h.1.1.2, fun j hj => ?_⟩
  have := allN_iff.1 h.1.1.1 j hj
  unfold ascAt at this
  simp only [Bool.and_eq_true] at this
  exact this.1

end Go.Proofs.Ythcpjkhijjkolaa

/- Texts of runs: both. -/
namespace Go.Proofs.Ythcpjkhijjkolaa
open Go.RowKit

def stateS (st : Int) : Str := if st = 0 then ⟨#[103, 111, 101, 115]⟩ else if st = 1 then ⟨#[98, 97, 99, 107]⟩ else if st = 2 then ⟨#[101, 110, 100, 101, 100]⟩ else ⟨#[117, 110, 100, 111, 110, 101]⟩
def rtS (st : Int) (done : List Str) : Str := stateS st ++ ⟨#[32]⟩ ++ namesS done
def rtT (f : Flow) (st : Int) (done : List Str) : Str := if runB f st done = true then rtS st done else ⟨#[]⟩
theorem rtT_yes {f : Flow} {st : Int} {done : List Str} (h : runB f st done = true) : rtT f st done = rtS st done := by unfold rtT; rw [if_pos h]
theorem rtT_no {f : Flow} {st : Int} {done : List Str} (h : runB f st done = false) : rtT f st done = ⟨#[]⟩ := by unfold rtT; rw [if_neg (by rw [h]; simp)]

theorem run_sizes {f : Flow} {st : Int} {done : List Str} (h : runB f st done = true) : done.length ≤ 8 ∧ ∀ j, j < done.length → nameB (nth done j) = true := by
  have ho := run_ord h
  have hf := flowB_iff.1 (run_flow h)
  refine ⟨Nat.le_trans (ord_len ho) hf.2.2.1.2, fun j hj => ?_⟩
  obtain ⟨i, hi, he⟩ := nth_of_mem (hasB_true.1 (ord_all ho j hj))
  rw [namesOf_len] at hi
  rw [namesOf_at hi] at he
  have h1 := hf.1 i hi
  simp only [stepAt, stepB, Bool.and_eq_true] at h1
  rw [← he]
  exact h1.1.1.1.1.2
theorem namesS_size8 {xs : List Str} (h8 : xs.length ≤ 8) (h : ∀ j, j < xs.length → nameB (nth xs j) = true) : (namesS xs).size ≤ 48 := by
  unfold namesS
  split
  · show 1 ≤ 48; omega
  · have := jnS_size (xs := xs) (m := 5) (fun j hj => (nameB_size (h j hj)).2) xs.length (Nat.le_refl _)
    have h2 : xs.length * (5 + 1) ≤ 8 * 6 := Nat.mul_le_mul_right _ h8
    omega
theorem stateS_size (st : Int) : (stateS st).size ≤ 6 := by
  unfold stateS
  repeat' split
  all_goals decide

theorem Below.al_ {w w' : World} (h : Below w.heap.size w w') (o : Obj) : Below w.heap.size w (w'.alloc o) := h.alloc h.size o

set_option maxRecDepth 100000 in
theorem l41State_any (st : Int) (w : World) (h0 : 0 ≤ st) (h1 : st ≤ 3) :
    Calls Try.prog 60 #[.int .i64 st] w fun e w' => e = .returned (.string (stateS st)) ∧ w = w' := by
  obtain ⟨s, hs, rfl⟩ : ∃ s : Nat, s < 4 ∧ st = (s : Int) := ⟨st.toNat, by omega, by omega⟩
  match s, hs with
  | 0, _ =>
    go_enter Try.func60, Try.ntmps60
    go_wp2_with fail
    go_ret
    exact ⟨rfl, rfl⟩
  | 1, _ =>
    go_enter Try.func60, Try.ntmps60
    go_wp2_with fail
    go_ret
    exact ⟨rfl, rfl⟩
  | 2, _ =>
    go_enter Try.func60, Try.ntmps60
    go_wp2_with fail
    go_ret
    exact ⟨rfl, rfl⟩
  | 3, _ =>
    go_enter Try.func60, Try.ntmps60
    go_wp2_with fail
    go_ret
    exact ⟨rfl, rfl⟩

set_option maxRecDepth 100000 in
set_option maxHeartbeats 1000000 in
theorem runTextS_any (A B : Option Addr) (n c m d : Nat) (f : Flow) (st : Int) (done : List Str) (lo lo' : Nat) (w : World) (hr : RStep w lo A n f.steps) (hok : okSteps f.steps) (hd : RStr w lo' B m done) (hm : m ≤ 1048576) (hmd : m ≤ d) :
    Calls Try.prog 16 #[.agg #[.int .i64 f.ver, .slice A n c], .agg #[.int .i64 st, .slice B m d]] w fun e w' => e = .returned (.string (rtT f st done)) ∧ Below w.heap.size w w' := by
  have HO := Lib.hid hok; clear hok
  have HX0 := Lib.hid (heap_old (o := .cells #[.int .i64 st, .slice B m d] 35) (heap_new (w := w) (o := .cells #[.int .i64 f.ver, .slice A n c] 33) rfl))
  have HY0 := Lib.hid (heap_new (w := w.alloc (.cells #[.int .i64 f.ver, .slice A n c] 33)) (b := w.heap.size + 1) (o := .cells #[.int .i64 st, .slice B m d] 35) (by simp))
  have HB0 := Lib.hid (((Below.refl w.heap.size w).alloc (Nat.le_refl _) (.cells #[.int .i64 f.ver, .slice A n c] 33)).alloc (by simp) (.cells #[.int .i64 st, .slice B m d] 35))
  have HR := Lib.hid ((hr.alloc (.cells #[.int .i64 f.ver, .slice A n c] 33)).alloc (.cells #[.int .i64 st, .slice B m d] 35)); clear hr
  have HD := Lib.hid ((hd.alloc (.cells #[.int .i64 f.ver, .slice A n c] 33)).alloc (.cells #[.int .i64 st, .slice B m d] 35)); clear hd
  have HLm := Lib.hid (show done.length = m from HD.out.1)
  go_enter Try.func16, Try.ntmps16
  go_wp2_with fail
  refine (runS_any _ _ _ _ _ _ f st done _ _ _ HR.out HO.out HD.out hm hmd).mono ?_
  rintro e w1 ⟨rfl, hb⟩
  have HY1 := Lib.hid ((hb.block _ (heap_lt HY0.out)).trans HY0.out)
  have HB1 := Lib.hid (HB0.out.trans (hb.mono HB0.out.size))
  have HD1 := Lib.hid (HD.out.below hb)
  clear hb HX0 HY0 HR HD HB0
  cases hrb : runB f st done
  · have HE := Lib.hid (rtT_no hrb); clear hrb
    go_wp2_with fail
    go_ret
    exact ⟨ret_s HE.out.symm, HB1.out⟩
  have HE := Lib.hid (rtT_yes hrb)
  obtain ⟨h8, hnm⟩ := run_sizes hrb
  have hst := run_state hrb
  have q1 := namesS_size8 h8 hnm
  have q2 := stateS_size st
  have HNM := Lib.hid hnm; clear hnm hrb
  have hm8 : m ≤ 8 := by rw [← HLm.out]; exact h8
  clear h8
  have hwx := heap_lt HY1.out
  have HNT := Lib.hid (fun x : Bl w1 => l41Names_any B m d done _ x.wd (HD1.out.below x.below) (by omega) (fun j hj => by have := (nameB_size (HNM.out j (by rw [HLm.out]; exact hj))).2; omega))
  have HST := Lib.hid (fun x : Bl w1 => l41State_any st x.wd hst.1 hst.2)
  have X0 : ∀ x : Bl w1, x.wd.cell? ⟨w.heap.size + 1, 0, none⟩ = some (.int .i64 st) := fun x => (blk_cl (k := 0) ((x.below.block _ hwx).trans HY1.out) rfl).1
  have X1 : ∀ x : Bl w1, x.wd.cell? ⟨w.heap.size + 1, 1, none⟩ = some (.slice B m d) := fun x => (blk_cl (k := 1) ((x.below.block _ hwx).trans HY1.out) rfl).1
  go_wp2_with fail
  refine region_bl (by kernel_rfl) (by kernel_rfl) ?_
  repeat (go_big_quiet_step (first | (go_at_call 60; exact q_bl_same (HST.out _)) | (go_at_call 61; exact q_bl_same (HNT.out _))))
  refine wpQuiet_nil ?_
  intro _ hw'
  obtain ⟨x, rfl⟩ := hw'
  have HB2 := Lib.hid (HB1.out.trans (x.below.mono HB1.out.size))
  clear X0 X1 HNT HST
  go_wp2_with fail
  go_ret
  exact ⟨ret_s (by rw [HE.out]; rfl), HB2.out⟩

end Go.Proofs.Ythcpjkhijjkolaa

/- Texts of runs: the program's side. -/
namespace Go.Proofs.Ythcpjkhijjkolaa
open Go.RowKit

section
variable {P : Program} {ops : Array Oper} {Q : Exit → Act → World → Prop} {md : Region.Mode} {S S' : World → Prop}
/-- The condition may grow on the way. -/
theorem wpAnyH_mono (hss : ∀ w, S' w → S w) : ∀ (fuel : Nat) (listed : Array Bool) (a : Act) (w : World), wpAnyH P md ops Q S' fuel listed a w → wpAnyH P md ops Q S fuel listed a w
  | 0, _, _, _, h => h
  | fuel + 1, _, _, _, h => ⟨h.1, fun i hi => wpOp_mono (fun a' w' h' => ⟨hss w' h'.1, wpAnyH_mono hss fuel _ a' w' h'.2⟩) (h.2 i hi)⟩
theorem wpAnyH_takeD {i : Nat} {oi : Oper} {v : Value} {d : Option Tmp} {fuel : Nat} {listed : Array Bool} {a : Act} {w : World} (hi : ops[i]? = some oi) (hd : oi.dst = d)
    (hs : Region.noSelect ops = true) (hf : Region.free md ops listed i = true) (hr : (Region.ready md ops listed).contains i = true)
    (hQ : ∀ c a w, Q (.panic c) (a.put d v) w → Q (.panic c) a w) (hy : YieldsIf P ops S oi v a) (hS : S w)
    (h : wpAnyH P md ops Q S fuel (listed.setIfInBounds i true) (a.put d v) w) : wpAnyH P md ops Q S (fuel + 1) listed a w := by
  subst hd
  exact wpAnyH_take hi hs hf hr hQ hy hS h
end

set_option maxRecDepth 100000 in
set_option maxHeartbeats 2000000 in
theorem runTextI_any (A B : Option Addr) (n c m d : Nat) (f : Flow) (st : Int) (done : List Str) (lo lo' : Nat) (w : World) (hr : RStep w lo A n f.steps) (hok : okSteps f.steps) (hd : RStr w lo' B m done) (hm : m ≤ 1048576) (hmd : m ≤ d) :
    Calls Try.prog 19 #[.agg #[.int .i64 f.ver, .slice A n c], .agg #[.int .i64 st, .slice B m d]] w fun e w' => e = .returned (.string (rtT f st done)) ∧ Below w.heap.size w w' := by
  have HO := Lib.hid hok; clear hok
  have HY0 := Lib.hid (heap_new (w := w.alloc (.cells #[.int .i64 f.ver, .slice A n c] 33)) (b := w.heap.size + 1) (o := .cells #[.int .i64 st, .slice B m d] 35) (by simp))
  have HB0 := Lib.hid (((Below.refl w.heap.size w).alloc (Nat.le_refl _) (.cells #[.int .i64 f.ver, .slice A n c] 33)).alloc (by simp) (.cells #[.int .i64 st, .slice B m d] 35))
  have HR := Lib.hid ((hr.alloc (.cells #[.int .i64 f.ver, .slice A n c] 33)).alloc (.cells #[.int .i64 st, .slice B m d] 35)); clear hr
  have HD := Lib.hid ((hd.alloc (.cells #[.int .i64 f.ver, .slice A n c] 33)).alloc (.cells #[.int .i64 st, .slice B m d] 35)); clear hd
  have HLm := Lib.hid (show done.length = m from HD.out.1)
  go_enter Try.func19, Try.ntmps19
  go_wp2_with fail
  refine (runI_any _ _ _ _ _ _ f st done _ _ _ HR.out HO.out HD.out hm hmd).mono ?_
  rintro e w1 ⟨rfl, hb⟩
  have HY1 := Lib.hid ((hb.block _ (heap_lt HY0.out)).trans HY0.out)
  have HB1 := Lib.hid (HB0.out.trans (hb.mono HB0.out.size))
  have HD1 := Lib.hid (HD.out.below hb)
  clear hb HY0 HR HD HB0
  cases hrb : runB f st done
  · have HE := Lib.hid (rtT_no hrb); clear hrb
    go_wp2_with fail
    go_ret
    exact ⟨ret_s HE.out.symm, HB1.out⟩
  have HE := Lib.hid (rtT_yes hrb)
  obtain ⟨h8, hnm⟩ := run_sizes hrb
  have hst := run_state hrb
  have q1 := namesS_size8 h8 hnm
  have HNM := Lib.hid hnm; clear hnm hrb
  have hm8 : m ≤ 8 := by rw [← HLm.out]; exact h8
  clear h8
  have hwx := heap_lt HY1.out
  have HSB : Hid (∀ w', Below w1.heap.size w1 w' → (w'.cell? ⟨w.heap.size + 1, 0, none⟩ = some (.int .i64 st) ∧ w'.cell? ⟨w.heap.size + 1, 1, none⟩ = some (.slice B m d)) ∧ Below w1.heap.size w1 w') := fun w' h => by
    have e1 := (h.block _ (heap_lt HY1.out)).trans HY1.out
    exact ⟨⟨(blk_cl (k := 0) e1 rfl).1, (blk_cl (k := 1) e1 rfl).1⟩, h⟩
  have HNT : Hid (∀ cur, Below w1.heap.size w1 cur → Calls Try.prog 65 #[.slice B m d] cur fun e w' => e = .returned (.string (namesS done)) ∧ Below w1.heap.size w1 w' ∧ Below cur.heap.size cur w') := fun cur h =>
    (namesTextI_any B m d done _ cur (HD1.out.below h) hmd (by omega) (fun j hj => by have := (nameB_size (HNM.out j (by rw [HLm.out]; exact hj))).2; omega)).mono fun e w' ⟨he, hb⟩ => ⟨he, h.trans (hb.mono h.size), hb⟩
  generalize hnd : namesS done = nd at *
  have HND := Lib.hid hnd; clear hnd
  by_cases h0 : st = 0
  · subst h0
    have HE0 := Lib.hid (show stateS 0 = ⟨#[103, 111, 101, 115]⟩ from rfl)
    clear hst
    go_wp2_with fail
    refine wp_region_held_drew (S := fun w' => (w'.cell? ⟨w.heap.size + 1, 0, none⟩ = some (.int .i64 0) ∧ w'.cell? ⟨w.heap.size + 1, 1, none⟩ = some (.slice B m d)) ∧ Below w1.heap.size w1 w') (by kernel_rfl) (HSB.out _ (Below.refl _ _).drew) (fun hH => ?_)
    refine wpAnyH_takeD (i := 1) (d := some 10) (v := ?v1) rfl (by rfl) (by kernel_rfl) (by kernel_rfl) (by kernel_rfl) (fun _ _ _ h => h) (Or.inl ⟨by rfl, ?y1⟩) hH ?r1
    case y1 => (intro w' hS; (try dsimp only at hS); go_simp; (try with_reducible rfl))
    (try simp only [Act.put, List.setIfInBounds_toArray, List.set_cons_zero, List.set_cons_succ])
    refine wpAnyH_takeD (i := 2) (d := some 11) (v := ?v2) rfl (by rfl) (by kernel_rfl) (by kernel_rfl) (by kernel_rfl) (fun _ _ _ h => h) (Or.inl ⟨by rfl, ?y2⟩) hH ?r2
    case y2 => (intro w' hS; (try dsimp only at hS); go_simp; (try with_reducible rfl))
    (try simp only [Act.put, List.setIfInBounds_toArray, List.set_cons_zero, List.set_cons_succ])
    refine wpAnyH_takeD (i := 6) (d := some 15) (v := ?v3) rfl (by rfl) (by kernel_rfl) (by kernel_rfl) (by kernel_rfl) (fun _ _ _ h => h) (Or.inl ⟨by rfl, ?y3⟩) hH ?r3
    case y3 => (intro w' hS; (try dsimp only at hS); go_simp; (try with_reducible rfl))
    (try simp only [Act.put, List.setIfInBounds_toArray, List.set_cons_zero, List.set_cons_succ])
    refine wpAnyH_takeD (i := 7) (d := some 16) (v := ?v4) rfl (by rfl) (by kernel_rfl) (by kernel_rfl) (by kernel_rfl) (fun _ _ _ h => h) (Or.inl ⟨by rfl, ?y4⟩) hH ?r4
    case y4 => (intro w' hS; (try dsimp only at hS); go_simp; (try with_reducible rfl))
    (try simp only [Act.put, List.setIfInBounds_toArray, List.set_cons_zero, List.set_cons_succ])
    refine wpAnyH_ready (rs := [0, 8]) (by kernel_rfl) (by simp) ?_
    refine AllReadyH.cons rfl (fun K hK => ?_) ?_
    · go_simp
      refine hK.out _ _ (HSB.out _ (Below.al_ (Below.refl _ _).drew _)) (fun hH2 => ?_)
      clear hK K hH
      have hH := And.intro hH2 (blk_cl (w := w1.drew.alloc (.cells #[.string ⟨#[103, 111, 101, 115]⟩, .string ⟨#[98, 97, 99, 107]⟩, .string ⟨#[101, 110, 100, 101, 100]⟩, .string ⟨#[117, 110, 100, 111, 110, 101]⟩] 9)) (b := w1.heap.size) (k := 0) (heap_new rfl) rfl).1
      refine wpAnyH_mono (S' := fun w' => ((w'.cell? ⟨w.heap.size + 1, 0, none⟩ = some (.int .i64 0) ∧ w'.cell? ⟨w.heap.size + 1, 1, none⟩ = some (.slice B m d)) ∧ Below w1.heap.size w1 w') ∧ w'.cell? ⟨w1.heap.size, 0, none⟩ = some (.string ⟨#[103, 111, 101, 115]⟩)) (fun w h => h.1) _ _ _ _ ?_
      (try simp only [Act.put, List.setIfInBounds_toArray, List.set_cons_zero, List.set_cons_succ])
      refine wpAnyH_takeD (i := 3) (d := some 12) (v := ?v5) rfl (by rfl) (by kernel_rfl) (by kernel_rfl) (by kernel_rfl) (fun _ _ _ h => h) (Or.inl ⟨by rfl, ?y5⟩) hH ?r5
      case y5 => (intro w' hS; (try dsimp only at hS); go_simp; (try with_reducible rfl))
      (try simp only [Act.put, List.setIfInBounds_toArray, List.set_cons_zero, List.set_cons_succ])
      refine wpAnyH_takeD (i := 4) (d := some 13) (v := ?v6) rfl (by rfl) (by kernel_rfl) (by kernel_rfl) (by kernel_rfl) (fun _ _ _ h => h) (Or.inl ⟨by rfl, ?y6⟩) hH ?r6
      case y6 => (intro w' hS; (try dsimp only at hS); go_simp; (try with_reducible rfl))
      (try simp only [Act.put, List.setIfInBounds_toArray, List.set_cons_zero, List.set_cons_succ])
      refine wpAnyH_takeD (i := 5) (d := some 14) (v := ?v7) rfl (by rfl) (by kernel_rfl) (by kernel_rfl) (by kernel_rfl) (fun _ _ _ h => h) (Or.inl ⟨by rfl, ?y7⟩) hH ?r7
      case y7 => (intro w' hS; (try dsimp only at hS); go_simp; (try with_reducible rfl))
      (try simp only [Act.put, List.setIfInBounds_toArray, List.set_cons_zero, List.set_cons_succ])
      generalize hz5 : (⟨#[103, 111, 101, 115]⟩ ++ ⟨#[32]⟩ : Str) = z5
      have hs5 : z5.size ≤ 7 := by rw [← hz5, bsz_app]; show 4 + 1 ≤ 7; omega
      have HZ5 := Lib.hid hz5; clear hz5
      refine wpAnyH_ready (rs := [8]) (by kernel_rfl) (by simp) ?_
      refine AllReadyH.cons rfl (fun K hK => ?_) AllReadyH.nil
      go_wp2_with fail
      go_at_call 65
      refine (HNT.out _ (by repeat (first | with_reducible exact hbw | with_reducible exact Below.refl _ _ | apply Below.drew | apply Below.al_))).mono ?_
      rintro e w2 ⟨rfl, hbw, hb2⟩
      go_wp2_with fail
      refine hK.out _ _ ⟨HSB.out _ hbw, (hb2.cell (p := ⟨w1.heap.size, 0, none⟩) (by simp)).trans hH.2⟩ (fun hH3 => ?_)
      clear hK K hH
      have hH := hH3
      (try simp only [Act.put, List.setIfInBounds_toArray, List.set_cons_zero, List.set_cons_succ])
      refine wpAnyH_ready (rs := [9]) (by kernel_rfl) (by simp) ?_
      refine AllReadyH.cons rfl (fun K hK => ?_) AllReadyH.nil
      go_simp
      rw [if_neg (by omega)]
      (try simp only [Oper.upon])
      refine hK.out _ _ hH (fun _ => ?_)
      clear hK K
      (try simp only [Act.put, List.setIfInBounds_toArray, List.set_cons_zero, List.set_cons_succ])
      refine wpAnyH_takeD (i := 10) (d := some 4) (v := ?v8) rfl (by rfl) (by kernel_rfl) (by kernel_rfl) (by kernel_rfl) (fun _ _ _ h => h) (Or.inl ⟨by rfl, ?y8⟩) hH ?r8
      case y8 => (intro w' hS; (try dsimp only at hS); go_simp; (try with_reducible rfl))
      (try simp only [Act.put, List.setIfInBounds_toArray, List.set_cons_zero, List.set_cons_succ])
      refine wpAnyH_done (by kernel_rfl) ?_ _
      go_wp2_with fail
      go_ret
      exact ⟨ret_s (by rw [HE.out]; unfold rtS; rw [HND.out, HE0.out, HZ5.out]), HB1.out.trans ((by repeat (first | with_reducible exact hbw | with_reducible exact Below.refl _ _ | apply Below.drew | apply Below.al_) : Below w1.heap.size w1 _).mono HB1.out.size)⟩
    refine AllReadyH.cons rfl (fun K hK => ?_) AllReadyH.nil
    go_wp2_with fail
    go_at_call 65
    refine (HNT.out _ (by repeat (first | with_reducible exact hbw | with_reducible exact Below.refl _ _ | apply Below.drew | apply Below.al_))).mono ?_
    rintro e w2 ⟨rfl, hbw, hb2⟩
    go_wp2_with fail
    refine hK.out _ _ (HSB.out _ hbw) (fun hH2 => ?_)
    clear hK K hH
    have hH := hH2
    (try simp only [Act.put, List.setIfInBounds_toArray, List.set_cons_zero, List.set_cons_succ])
    refine wpAnyH_ready (rs := [0]) (by kernel_rfl) (by simp) ?_
    refine AllReadyH.cons rfl (fun K hK => ?_) AllReadyH.nil
    go_simp
    refine hK.out _ _ (HSB.out _ (Below.al_ hbw _)) (fun hH2 => ?_)
    clear hK K hH
    have hbx := hbw
    have hH := And.intro hH2 (blk_cl (w := w2.alloc (.cells #[.string ⟨#[103, 111, 101, 115]⟩, .string ⟨#[98, 97, 99, 107]⟩, .string ⟨#[101, 110, 100, 101, 100]⟩, .string ⟨#[117, 110, 100, 111, 110, 101]⟩] 9)) (b := w2.heap.size) (k := 0) (heap_new rfl) rfl).1
    refine wpAnyH_mono (S' := fun w' => ((w'.cell? ⟨w.heap.size + 1, 0, none⟩ = some (.int .i64 0) ∧ w'.cell? ⟨w.heap.size + 1, 1, none⟩ = some (.slice B m d)) ∧ Below w1.heap.size w1 w') ∧ w'.cell? ⟨w2.heap.size, 0, none⟩ = some (.string ⟨#[103, 111, 101, 115]⟩)) (fun w h => h.1) _ _ _ _ ?_
    (try simp only [Act.put, List.setIfInBounds_toArray, List.set_cons_zero, List.set_cons_succ])
    refine wpAnyH_takeD (i := 3) (d := some 12) (v := ?v9) rfl (by rfl) (by kernel_rfl) (by kernel_rfl) (by kernel_rfl) (fun _ _ _ h => h) (Or.inl ⟨by rfl, ?y9⟩) hH ?r9
    case y9 => (intro w' hS; (try dsimp only at hS); go_simp; (try with_reducible rfl))
    (try simp only [Act.put, List.setIfInBounds_toArray, List.set_cons_zero, List.set_cons_succ])
    refine wpAnyH_takeD (i := 4) (d := some 13) (v := ?v10) rfl (by rfl) (by kernel_rfl) (by kernel_rfl) (by kernel_rfl) (fun _ _ _ h => h) (Or.inl ⟨by rfl, ?y10⟩) hH ?r10
    case y10 => (intro w' hS; (try dsimp only at hS); go_simp; (try with_reducible rfl))
    (try simp only [Act.put, List.setIfInBounds_toArray, List.set_cons_zero, List.set_cons_succ])
    refine wpAnyH_takeD (i := 5) (d := some 14) (v := ?v11) rfl (by rfl) (by kernel_rfl) (by kernel_rfl) (by kernel_rfl) (fun _ _ _ h => h) (Or.inl ⟨by rfl, ?y11⟩) hH ?r11
    case y11 => (intro w' hS; (try dsimp only at hS); go_simp; (try with_reducible rfl))
    (try simp only [Act.put, List.setIfInBounds_toArray, List.set_cons_zero, List.set_cons_succ])
    generalize hz5 : (⟨#[103, 111, 101, 115]⟩ ++ ⟨#[32]⟩ : Str) = z5
    have hs5 : z5.size ≤ 7 := by rw [← hz5, bsz_app]; show 4 + 1 ≤ 7; omega
    have HZ5 := Lib.hid hz5; clear hz5
    refine wpAnyH_ready (rs := [9]) (by kernel_rfl) (by simp) ?_
    refine AllReadyH.cons rfl (fun K hK => ?_) AllReadyH.nil
    go_simp
    rw [if_neg (by omega)]
    (try simp only [Oper.upon])
    refine hK.out _ _ hH (fun _ => ?_)
    clear hK K
    (try simp only [Act.put, List.setIfInBounds_toArray, List.set_cons_zero, List.set_cons_succ])
    refine wpAnyH_takeD (i := 10) (d := some 4) (v := ?v12) rfl (by rfl) (by kernel_rfl) (by kernel_rfl) (by kernel_rfl) (fun _ _ _ h => h) (Or.inl ⟨by rfl, ?y12⟩) hH ?r12
    case y12 => (intro w' hS; (try dsimp only at hS); go_simp; (try with_reducible rfl))
    (try simp only [Act.put, List.setIfInBounds_toArray, List.set_cons_zero, List.set_cons_succ])
    refine wpAnyH_done (by kernel_rfl) ?_ _
    go_wp2_with fail
    go_ret
    exact ⟨ret_s (by rw [HE.out]; unfold rtS; rw [HND.out, HE0.out, HZ5.out]), HB1.out.trans ((by repeat (first | with_reducible exact hbw | with_reducible exact Below.refl _ _ | apply Below.drew | apply Below.al_) : Below w1.heap.size w1 _).mono HB1.out.size)⟩
  by_cases h1 : st = 1
  · subst h1
    have HE1 := Lib.hid (show stateS 1 = ⟨#[98, 97, 99, 107]⟩ from rfl)
    clear hst
    go_wp2_with fail
    refine wp_region_held_drew (S := fun w' => (w'.cell? ⟨w.heap.size + 1, 0, none⟩ = some (.int .i64 1) ∧ w'.cell? ⟨w.heap.size + 1, 1, none⟩ = some (.slice B m d)) ∧ Below w1.heap.size w1 w') (by kernel_rfl) (HSB.out _ (Below.refl _ _).drew) (fun hH => ?_)
    refine wpAnyH_takeD (i := 1) (d := some 10) (v := ?v13) rfl (by rfl) (by kernel_rfl) (by kernel_rfl) (by kernel_rfl) (fun _ _ _ h => h) (Or.inl ⟨by rfl, ?y13⟩) hH ?r13
    case y13 => (intro w' hS; (try dsimp only at hS); go_simp; (try with_reducible rfl))
    (try simp only [Act.put, List.setIfInBounds_toArray, List.set_cons_zero, List.set_cons_succ])
    refine wpAnyH_takeD (i := 2) (d := some 11) (v := ?v14) rfl (by rfl) (by kernel_rfl) (by kernel_rfl) (by kernel_rfl) (fun _ _ _ h => h) (Or.inl ⟨by rfl, ?y14⟩) hH ?r14
    case y14 => (intro w' hS; (try dsimp only at hS); go_simp; (try with_reducible rfl))
    (try simp only [Act.put, List.setIfInBounds_toArray, List.set_cons_zero, List.set_cons_succ])
    refine wpAnyH_takeD (i := 6) (d := some 15) (v := ?v15) rfl (by rfl) (by kernel_rfl) (by kernel_rfl) (by kernel_rfl) (fun _ _ _ h => h) (Or.inl ⟨by rfl, ?y15⟩) hH ?r15
    case y15 => (intro w' hS; (try dsimp only at hS); go_simp; (try with_reducible rfl))
    (try simp only [Act.put, List.setIfInBounds_toArray, List.set_cons_zero, List.set_cons_succ])
    refine wpAnyH_takeD (i := 7) (d := some 16) (v := ?v16) rfl (by rfl) (by kernel_rfl) (by kernel_rfl) (by kernel_rfl) (fun _ _ _ h => h) (Or.inl ⟨by rfl, ?y16⟩) hH ?r16
    case y16 => (intro w' hS; (try dsimp only at hS); go_simp; (try with_reducible rfl))
    (try simp only [Act.put, List.setIfInBounds_toArray, List.set_cons_zero, List.set_cons_succ])
    refine wpAnyH_ready (rs := [0, 8]) (by kernel_rfl) (by simp) ?_
    refine AllReadyH.cons rfl (fun K hK => ?_) ?_
    · go_simp
      refine hK.out _ _ (HSB.out _ (Below.al_ (Below.refl _ _).drew _)) (fun hH2 => ?_)
      clear hK K hH
      have hH := And.intro hH2 (blk_cl (w := w1.drew.alloc (.cells #[.string ⟨#[103, 111, 101, 115]⟩, .string ⟨#[98, 97, 99, 107]⟩, .string ⟨#[101, 110, 100, 101, 100]⟩, .string ⟨#[117, 110, 100, 111, 110, 101]⟩] 9)) (b := w1.heap.size) (k := 1) (heap_new rfl) rfl).1
      refine wpAnyH_mono (S' := fun w' => ((w'.cell? ⟨w.heap.size + 1, 0, none⟩ = some (.int .i64 1) ∧ w'.cell? ⟨w.heap.size + 1, 1, none⟩ = some (.slice B m d)) ∧ Below w1.heap.size w1 w') ∧ w'.cell? ⟨w1.heap.size, 1, none⟩ = some (.string ⟨#[98, 97, 99, 107]⟩)) (fun w h => h.1) _ _ _ _ ?_
      (try simp only [Act.put, List.setIfInBounds_toArray, List.set_cons_zero, List.set_cons_succ])
      refine wpAnyH_takeD (i := 3) (d := some 12) (v := ?v17) rfl (by rfl) (by kernel_rfl) (by kernel_rfl) (by kernel_rfl) (fun _ _ _ h => h) (Or.inl ⟨by rfl, ?y17⟩) hH ?r17
      case y17 => (intro w' hS; (try dsimp only at hS); go_simp; (try with_reducible rfl))
      (try simp only [Act.put, List.setIfInBounds_toArray, List.set_cons_zero, List.set_cons_succ])
      refine wpAnyH_takeD (i := 4) (d := some 13) (v := ?v18) rfl (by rfl) (by kernel_rfl) (by kernel_rfl) (by kernel_rfl) (fun _ _ _ h => h) (Or.inl ⟨by rfl, ?y18⟩) hH ?r18
      case y18 => (intro w' hS; (try dsimp only at hS); go_simp; (try with_reducible rfl))
      (try simp only [Act.put, List.setIfInBounds_toArray, List.set_cons_zero, List.set_cons_succ])
      refine wpAnyH_takeD (i := 5) (d := some 14) (v := ?v19) rfl (by rfl) (by kernel_rfl) (by kernel_rfl) (by kernel_rfl) (fun _ _ _ h => h) (Or.inl ⟨by rfl, ?y19⟩) hH ?r19
      case y19 => (intro w' hS; (try dsimp only at hS); go_simp; (try with_reducible rfl))
      (try simp only [Act.put, List.setIfInBounds_toArray, List.set_cons_zero, List.set_cons_succ])
      generalize hz5 : (⟨#[98, 97, 99, 107]⟩ ++ ⟨#[32]⟩ : Str) = z5
      have hs5 : z5.size ≤ 7 := by rw [← hz5, bsz_app]; show 4 + 1 ≤ 7; omega
      have HZ5 := Lib.hid hz5; clear hz5
      refine wpAnyH_ready (rs := [8]) (by kernel_rfl) (by simp) ?_
      refine AllReadyH.cons rfl (fun K hK => ?_) AllReadyH.nil
      go_wp2_with fail
      go_at_call 65
      refine (HNT.out _ (by repeat (first | with_reducible exact hbw | with_reducible exact Below.refl _ _ | apply Below.drew | apply Below.al_))).mono ?_
      rintro e w2 ⟨rfl, hbw, hb2⟩
      go_wp2_with fail
      refine hK.out _ _ ⟨HSB.out _ hbw, (hb2.cell (p := ⟨w1.heap.size, 1, none⟩) (by simp)).trans hH.2⟩ (fun hH3 => ?_)
      clear hK K hH
      have hH := hH3
      (try simp only [Act.put, List.setIfInBounds_toArray, List.set_cons_zero, List.set_cons_succ])
      refine wpAnyH_ready (rs := [9]) (by kernel_rfl) (by simp) ?_
      refine AllReadyH.cons rfl (fun K hK => ?_) AllReadyH.nil
      go_simp
      rw [if_neg (by omega)]
      (try simp only [Oper.upon])
      refine hK.out _ _ hH (fun _ => ?_)
      clear hK K
      (try simp only [Act.put, List.setIfInBounds_toArray, List.set_cons_zero, List.set_cons_succ])
      refine wpAnyH_takeD (i := 10) (d := some 4) (v := ?v20) rfl (by rfl) (by kernel_rfl) (by kernel_rfl) (by kernel_rfl) (fun _ _ _ h => h) (Or.inl ⟨by rfl, ?y20⟩) hH ?r20
      case y20 => (intro w' hS; (try dsimp only at hS); go_simp; (try with_reducible rfl))
      (try simp only [Act.put, List.setIfInBounds_toArray, List.set_cons_zero, List.set_cons_succ])
      refine wpAnyH_done (by kernel_rfl) ?_ _
      go_wp2_with fail
      go_ret
      exact ⟨ret_s (by rw [HE.out]; unfold rtS; rw [HND.out, HE1.out, HZ5.out]), HB1.out.trans ((by repeat (first | with_reducible exact hbw | with_reducible exact Below.refl _ _ | apply Below.drew | apply Below.al_) : Below w1.heap.size w1 _).mono HB1.out.size)⟩
    refine AllReadyH.cons rfl (fun K hK => ?_) AllReadyH.nil
    go_wp2_with fail
    go_at_call 65
    refine (HNT.out _ (by repeat (first | with_reducible exact hbw | with_reducible exact Below.refl _ _ | apply Below.drew | apply Below.al_))).mono ?_
    rintro e w2 ⟨rfl, hbw, hb2⟩
    go_wp2_with fail
    refine hK.out _ _ (HSB.out _ hbw) (fun hH2 => ?_)
    clear hK K hH
    have hH := hH2
    (try simp only [Act.put, List.setIfInBounds_toArray, List.set_cons_zero, List.set_cons_succ])
    refine wpAnyH_ready (rs := [0]) (by kernel_rfl) (by simp) ?_
    refine AllReadyH.cons rfl (fun K hK => ?_) AllReadyH.nil
    go_simp
    refine hK.out _ _ (HSB.out _ (Below.al_ hbw _)) (fun hH2 => ?_)
    clear hK K hH
    have hbx := hbw
    have hH := And.intro hH2 (blk_cl (w := w2.alloc (.cells #[.string ⟨#[103, 111, 101, 115]⟩, .string ⟨#[98, 97, 99, 107]⟩, .string ⟨#[101, 110, 100, 101, 100]⟩, .string ⟨#[117, 110, 100, 111, 110, 101]⟩] 9)) (b := w2.heap.size) (k := 1) (heap_new rfl) rfl).1
    refine wpAnyH_mono (S' := fun w' => ((w'.cell? ⟨w.heap.size + 1, 0, none⟩ = some (.int .i64 1) ∧ w'.cell? ⟨w.heap.size + 1, 1, none⟩ = some (.slice B m d)) ∧ Below w1.heap.size w1 w') ∧ w'.cell? ⟨w2.heap.size, 1, none⟩ = some (.string ⟨#[98, 97, 99, 107]⟩)) (fun w h => h.1) _ _ _ _ ?_
    (try simp only [Act.put, List.setIfInBounds_toArray, List.set_cons_zero, List.set_cons_succ])
    refine wpAnyH_takeD (i := 3) (d := some 12) (v := ?v21) rfl (by rfl) (by kernel_rfl) (by kernel_rfl) (by kernel_rfl) (fun _ _ _ h => h) (Or.inl ⟨by rfl, ?y21⟩) hH ?r21
    case y21 => (intro w' hS; (try dsimp only at hS); go_simp; (try with_reducible rfl))
    (try simp only [Act.put, List.setIfInBounds_toArray, List.set_cons_zero, List.set_cons_succ])
    refine wpAnyH_takeD (i := 4) (d := some 13) (v := ?v22) rfl (by rfl) (by kernel_rfl) (by kernel_rfl) (by kernel_rfl) (fun _ _ _ h => h) (Or.inl ⟨by rfl, ?y22⟩) hH ?r22
    case y22 => (intro w' hS; (try dsimp only at hS); go_simp; (try with_reducible rfl))
    (try simp only [Act.put, List.setIfInBounds_toArray, List.set_cons_zero, List.set_cons_succ])
    refine wpAnyH_takeD (i := 5) (d := some 14) (v := ?v23) rfl (by rfl) (by kernel_rfl) (by kernel_rfl) (by kernel_rfl) (fun _ _ _ h => h) (Or.inl ⟨by rfl, ?y23⟩) hH ?r23
    case y23 => (intro w' hS; (try dsimp only at hS); go_simp; (try with_reducible rfl))
    (try simp only [Act.put, List.setIfInBounds_toArray, List.set_cons_zero, List.set_cons_succ])
    generalize hz5 : (⟨#[98, 97, 99, 107]⟩ ++ ⟨#[32]⟩ : Str) = z5
    have hs5 : z5.size ≤ 7 := by rw [← hz5, bsz_app]; show 4 + 1 ≤ 7; omega
    have HZ5 := Lib.hid hz5; clear hz5
    refine wpAnyH_ready (rs := [9]) (by kernel_rfl) (by simp) ?_
    refine AllReadyH.cons rfl (fun K hK => ?_) AllReadyH.nil
    go_simp
    rw [if_neg (by omega)]
    (try simp only [Oper.upon])
    refine hK.out _ _ hH (fun _ => ?_)
    clear hK K
    (try simp only [Act.put, List.setIfInBounds_toArray, List.set_cons_zero, List.set_cons_succ])
    refine wpAnyH_takeD (i := 10) (d := some 4) (v := ?v24) rfl (by rfl) (by kernel_rfl) (by kernel_rfl) (by kernel_rfl) (fun _ _ _ h => h) (Or.inl ⟨by rfl, ?y24⟩) hH ?r24
    case y24 => (intro w' hS; (try dsimp only at hS); go_simp; (try with_reducible rfl))
    (try simp only [Act.put, List.setIfInBounds_toArray, List.set_cons_zero, List.set_cons_succ])
    refine wpAnyH_done (by kernel_rfl) ?_ _
    go_wp2_with fail
    go_ret
    exact ⟨ret_s (by rw [HE.out]; unfold rtS; rw [HND.out, HE1.out, HZ5.out]), HB1.out.trans ((by repeat (first | with_reducible exact hbw | with_reducible exact Below.refl _ _ | apply Below.drew | apply Below.al_) : Below w1.heap.size w1 _).mono HB1.out.size)⟩
  by_cases h2 : st = 2
  · subst h2
    have HE2 := Lib.hid (show stateS 2 = ⟨#[101, 110, 100, 101, 100]⟩ from rfl)
    clear hst
    go_wp2_with fail
    refine wp_region_held_drew (S := fun w' => (w'.cell? ⟨w.heap.size + 1, 0, none⟩ = some (.int .i64 2) ∧ w'.cell? ⟨w.heap.size + 1, 1, none⟩ = some (.slice B m d)) ∧ Below w1.heap.size w1 w') (by kernel_rfl) (HSB.out _ (Below.refl _ _).drew) (fun hH => ?_)
    refine wpAnyH_takeD (i := 1) (d := some 10) (v := ?v25) rfl (by rfl) (by kernel_rfl) (by kernel_rfl) (by kernel_rfl) (fun _ _ _ h => h) (Or.inl ⟨by rfl, ?y25⟩) hH ?r25
    case y25 => (intro w' hS; (try dsimp only at hS); go_simp; (try with_reducible rfl))
    (try simp only [Act.put, List.setIfInBounds_toArray, List.set_cons_zero, List.set_cons_succ])
    refine wpAnyH_takeD (i := 2) (d := some 11) (v := ?v26) rfl (by rfl) (by kernel_rfl) (by kernel_rfl) (by kernel_rfl) (fun _ _ _ h => h) (Or.inl ⟨by rfl, ?y26⟩) hH ?r26
    case y26 => (intro w' hS; (try dsimp only at hS); go_simp; (try with_reducible rfl))
    (try simp only [Act.put, List.setIfInBounds_toArray, List.set_cons_zero, List.set_cons_succ])
    refine wpAnyH_takeD (i := 6) (d := some 15) (v := ?v27) rfl (by rfl) (by kernel_rfl) (by kernel_rfl) (by kernel_rfl) (fun _ _ _ h => h) (Or.inl ⟨by rfl, ?y27⟩) hH ?r27
    case y27 => (intro w' hS; (try dsimp only at hS); go_simp; (try with_reducible rfl))
    (try simp only [Act.put, List.setIfInBounds_toArray, List.set_cons_zero, List.set_cons_succ])
    refine wpAnyH_takeD (i := 7) (d := some 16) (v := ?v28) rfl (by rfl) (by kernel_rfl) (by kernel_rfl) (by kernel_rfl) (fun _ _ _ h => h) (Or.inl ⟨by rfl, ?y28⟩) hH ?r28
    case y28 => (intro w' hS; (try dsimp only at hS); go_simp; (try with_reducible rfl))
    (try simp only [Act.put, List.setIfInBounds_toArray, List.set_cons_zero, List.set_cons_succ])
    refine wpAnyH_ready (rs := [0, 8]) (by kernel_rfl) (by simp) ?_
    refine AllReadyH.cons rfl (fun K hK => ?_) ?_
    · go_simp
      refine hK.out _ _ (HSB.out _ (Below.al_ (Below.refl _ _).drew _)) (fun hH2 => ?_)
      clear hK K hH
      have hH := And.intro hH2 (blk_cl (w := w1.drew.alloc (.cells #[.string ⟨#[103, 111, 101, 115]⟩, .string ⟨#[98, 97, 99, 107]⟩, .string ⟨#[101, 110, 100, 101, 100]⟩, .string ⟨#[117, 110, 100, 111, 110, 101]⟩] 9)) (b := w1.heap.size) (k := 2) (heap_new rfl) rfl).1
      refine wpAnyH_mono (S' := fun w' => ((w'.cell? ⟨w.heap.size + 1, 0, none⟩ = some (.int .i64 2) ∧ w'.cell? ⟨w.heap.size + 1, 1, none⟩ = some (.slice B m d)) ∧ Below w1.heap.size w1 w') ∧ w'.cell? ⟨w1.heap.size, 2, none⟩ = some (.string ⟨#[101, 110, 100, 101, 100]⟩)) (fun w h => h.1) _ _ _ _ ?_
      (try simp only [Act.put, List.setIfInBounds_toArray, List.set_cons_zero, List.set_cons_succ])
      refine wpAnyH_takeD (i := 3) (d := some 12) (v := ?v29) rfl (by rfl) (by kernel_rfl) (by kernel_rfl) (by kernel_rfl) (fun _ _ _ h => h) (Or.inl ⟨by rfl, ?y29⟩) hH ?r29
      case y29 => (intro w' hS; (try dsimp only at hS); go_simp; (try with_reducible rfl))
      (try simp only [Act.put, List.setIfInBounds_toArray, List.set_cons_zero, List.set_cons_succ])
      refine wpAnyH_takeD (i := 4) (d := some 13) (v := ?v30) rfl (by rfl) (by kernel_rfl) (by kernel_rfl) (by kernel_rfl) (fun _ _ _ h => h) (Or.inl ⟨by rfl, ?y30⟩) hH ?r30
      case y30 => (intro w' hS; (try dsimp only at hS); go_simp; (try with_reducible rfl))
      (try simp only [Act.put, List.setIfInBounds_toArray, List.set_cons_zero, List.set_cons_succ])
      refine wpAnyH_takeD (i := 5) (d := some 14) (v := ?v31) rfl (by rfl) (by kernel_rfl) (by kernel_rfl) (by kernel_rfl) (fun _ _ _ h => h) (Or.inl ⟨by rfl, ?y31⟩) hH ?r31
      case y31 => (intro w' hS; (try dsimp only at hS); go_simp; (try with_reducible rfl))
      (try simp only [Act.put, List.setIfInBounds_toArray, List.set_cons_zero, List.set_cons_succ])
      generalize hz5 : (⟨#[101, 110, 100, 101, 100]⟩ ++ ⟨#[32]⟩ : Str) = z5
      have hs5 : z5.size ≤ 7 := by rw [← hz5, bsz_app]; show 5 + 1 ≤ 7; omega
      have HZ5 := Lib.hid hz5; clear hz5
      refine wpAnyH_ready (rs := [8]) (by kernel_rfl) (by simp) ?_
      refine AllReadyH.cons rfl (fun K hK => ?_) AllReadyH.nil
      go_wp2_with fail
      go_at_call 65
      refine (HNT.out _ (by repeat (first | with_reducible exact hbw | with_reducible exact Below.refl _ _ | apply Below.drew | apply Below.al_))).mono ?_
      rintro e w2 ⟨rfl, hbw, hb2⟩
      go_wp2_with fail
      refine hK.out _ _ ⟨HSB.out _ hbw, (hb2.cell (p := ⟨w1.heap.size, 2, none⟩) (by simp)).trans hH.2⟩ (fun hH3 => ?_)
      clear hK K hH
      have hH := hH3
      (try simp only [Act.put, List.setIfInBounds_toArray, List.set_cons_zero, List.set_cons_succ])
      refine wpAnyH_ready (rs := [9]) (by kernel_rfl) (by simp) ?_
      refine AllReadyH.cons rfl (fun K hK => ?_) AllReadyH.nil
      go_simp
      rw [if_neg (by omega)]
      (try simp only [Oper.upon])
      refine hK.out _ _ hH (fun _ => ?_)
      clear hK K
      (try simp only [Act.put, List.setIfInBounds_toArray, List.set_cons_zero, List.set_cons_succ])
      refine wpAnyH_takeD (i := 10) (d := some 4) (v := ?v32) rfl (by rfl) (by kernel_rfl) (by kernel_rfl) (by kernel_rfl) (fun _ _ _ h => h) (Or.inl ⟨by rfl, ?y32⟩) hH ?r32
      case y32 => (intro w' hS; (try dsimp only at hS); go_simp; (try with_reducible rfl))
      (try simp only [Act.put, List.setIfInBounds_toArray, List.set_cons_zero, List.set_cons_succ])
      refine wpAnyH_done (by kernel_rfl) ?_ _
      go_wp2_with fail
      go_ret
      exact ⟨ret_s (by rw [HE.out]; unfold rtS; rw [HND.out, HE2.out, HZ5.out]), HB1.out.trans ((by repeat (first | with_reducible exact hbw | with_reducible exact Below.refl _ _ | apply Below.drew | apply Below.al_) : Below w1.heap.size w1 _).mono HB1.out.size)⟩
    refine AllReadyH.cons rfl (fun K hK => ?_) AllReadyH.nil
    go_wp2_with fail
    go_at_call 65
    refine (HNT.out _ (by repeat (first | with_reducible exact hbw | with_reducible exact Below.refl _ _ | apply Below.drew | apply Below.al_))).mono ?_
    rintro e w2 ⟨rfl, hbw, hb2⟩
    go_wp2_with fail
    refine hK.out _ _ (HSB.out _ hbw) (fun hH2 => ?_)
    clear hK K hH
    have hH := hH2
    (try simp only [Act.put, List.setIfInBounds_toArray, List.set_cons_zero, List.set_cons_succ])
    refine wpAnyH_ready (rs := [0]) (by kernel_rfl) (by simp) ?_
    refine AllReadyH.cons rfl (fun K hK => ?_) AllReadyH.nil
    go_simp
    refine hK.out _ _ (HSB.out _ (Below.al_ hbw _)) (fun hH2 => ?_)
    clear hK K hH
    have hbx := hbw
    have hH := And.intro hH2 (blk_cl (w := w2.alloc (.cells #[.string ⟨#[103, 111, 101, 115]⟩, .string ⟨#[98, 97, 99, 107]⟩, .string ⟨#[101, 110, 100, 101, 100]⟩, .string ⟨#[117, 110, 100, 111, 110, 101]⟩] 9)) (b := w2.heap.size) (k := 2) (heap_new rfl) rfl).1
    refine wpAnyH_mono (S' := fun w' => ((w'.cell? ⟨w.heap.size + 1, 0, none⟩ = some (.int .i64 2) ∧ w'.cell? ⟨w.heap.size + 1, 1, none⟩ = some (.slice B m d)) ∧ Below w1.heap.size w1 w') ∧ w'.cell? ⟨w2.heap.size, 2, none⟩ = some (.string ⟨#[101, 110, 100, 101, 100]⟩)) (fun w h => h.1) _ _ _ _ ?_
    (try simp only [Act.put, List.setIfInBounds_toArray, List.set_cons_zero, List.set_cons_succ])
    refine wpAnyH_takeD (i := 3) (d := some 12) (v := ?v33) rfl (by rfl) (by kernel_rfl) (by kernel_rfl) (by kernel_rfl) (fun _ _ _ h => h) (Or.inl ⟨by rfl, ?y33⟩) hH ?r33
    case y33 => (intro w' hS; (try dsimp only at hS); go_simp; (try with_reducible rfl))
    (try simp only [Act.put, List.setIfInBounds_toArray, List.set_cons_zero, List.set_cons_succ])
    refine wpAnyH_takeD (i := 4) (d := some 13) (v := ?v34) rfl (by rfl) (by kernel_rfl) (by kernel_rfl) (by kernel_rfl) (fun _ _ _ h => h) (Or.inl ⟨by rfl, ?y34⟩) hH ?r34
    case y34 => (intro w' hS; (try dsimp only at hS); go_simp; (try with_reducible rfl))
    (try simp only [Act.put, List.setIfInBounds_toArray, List.set_cons_zero, List.set_cons_succ])
    refine wpAnyH_takeD (i := 5) (d := some 14) (v := ?v35) rfl (by rfl) (by kernel_rfl) (by kernel_rfl) (by kernel_rfl) (fun _ _ _ h => h) (Or.inl ⟨by rfl, ?y35⟩) hH ?r35
    case y35 => (intro w' hS; (try dsimp only at hS); go_simp; (try with_reducible rfl))
    (try simp only [Act.put, List.setIfInBounds_toArray, List.set_cons_zero, List.set_cons_succ])
    generalize hz5 : (⟨#[101, 110, 100, 101, 100]⟩ ++ ⟨#[32]⟩ : Str) = z5
    have hs5 : z5.size ≤ 7 := by rw [← hz5, bsz_app]; show 5 + 1 ≤ 7; omega
    have HZ5 := Lib.hid hz5; clear hz5
    refine wpAnyH_ready (rs := [9]) (by kernel_rfl) (by simp) ?_
    refine AllReadyH.cons rfl (fun K hK => ?_) AllReadyH.nil
    go_simp
    rw [if_neg (by omega)]
    (try simp only [Oper.upon])
    refine hK.out _ _ hH (fun _ => ?_)
    clear hK K
    (try simp only [Act.put, List.setIfInBounds_toArray, List.set_cons_zero, List.set_cons_succ])
    refine wpAnyH_takeD (i := 10) (d := some 4) (v := ?v36) rfl (by rfl) (by kernel_rfl) (by kernel_rfl) (by kernel_rfl) (fun _ _ _ h => h) (Or.inl ⟨by rfl, ?y36⟩) hH ?r36
    case y36 => (intro w' hS; (try dsimp only at hS); go_simp; (try with_reducible rfl))
    (try simp only [Act.put, List.setIfInBounds_toArray, List.set_cons_zero, List.set_cons_succ])
    refine wpAnyH_done (by kernel_rfl) ?_ _
    go_wp2_with fail
    go_ret
    exact ⟨ret_s (by rw [HE.out]; unfold rtS; rw [HND.out, HE2.out, HZ5.out]), HB1.out.trans ((by repeat (first | with_reducible exact hbw | with_reducible exact Below.refl _ _ | apply Below.drew | apply Below.al_) : Below w1.heap.size w1 _).mono HB1.out.size)⟩
  by_cases h3 : st = 3
  · subst h3
    have HE3 := Lib.hid (show stateS 3 = ⟨#[117, 110, 100, 111, 110, 101]⟩ from rfl)
    clear hst
    go_wp2_with fail
    refine wp_region_held_drew (S := fun w' => (w'.cell? ⟨w.heap.size + 1, 0, none⟩ = some (.int .i64 3) ∧ w'.cell? ⟨w.heap.size + 1, 1, none⟩ = some (.slice B m d)) ∧ Below w1.heap.size w1 w') (by kernel_rfl) (HSB.out _ (Below.refl _ _).drew) (fun hH => ?_)
    refine wpAnyH_takeD (i := 1) (d := some 10) (v := ?v37) rfl (by rfl) (by kernel_rfl) (by kernel_rfl) (by kernel_rfl) (fun _ _ _ h => h) (Or.inl ⟨by rfl, ?y37⟩) hH ?r37
    case y37 => (intro w' hS; (try dsimp only at hS); go_simp; (try with_reducible rfl))
    (try simp only [Act.put, List.setIfInBounds_toArray, List.set_cons_zero, List.set_cons_succ])
    refine wpAnyH_takeD (i := 2) (d := some 11) (v := ?v38) rfl (by rfl) (by kernel_rfl) (by kernel_rfl) (by kernel_rfl) (fun _ _ _ h => h) (Or.inl ⟨by rfl, ?y38⟩) hH ?r38
    case y38 => (intro w' hS; (try dsimp only at hS); go_simp; (try with_reducible rfl))
    (try simp only [Act.put, List.setIfInBounds_toArray, List.set_cons_zero, List.set_cons_succ])
    refine wpAnyH_takeD (i := 6) (d := some 15) (v := ?v39) rfl (by rfl) (by kernel_rfl) (by kernel_rfl) (by kernel_rfl) (fun _ _ _ h => h) (Or.inl ⟨by rfl, ?y39⟩) hH ?r39
    case y39 => (intro w' hS; (try dsimp only at hS); go_simp; (try with_reducible rfl))
    (try simp only [Act.put, List.setIfInBounds_toArray, List.set_cons_zero, List.set_cons_succ])
    refine wpAnyH_takeD (i := 7) (d := some 16) (v := ?v40) rfl (by rfl) (by kernel_rfl) (by kernel_rfl) (by kernel_rfl) (fun _ _ _ h => h) (Or.inl ⟨by rfl, ?y40⟩) hH ?r40
    case y40 => (intro w' hS; (try dsimp only at hS); go_simp; (try with_reducible rfl))
    (try simp only [Act.put, List.setIfInBounds_toArray, List.set_cons_zero, List.set_cons_succ])
    refine wpAnyH_ready (rs := [0, 8]) (by kernel_rfl) (by simp) ?_
    refine AllReadyH.cons rfl (fun K hK => ?_) ?_
    · go_simp
      refine hK.out _ _ (HSB.out _ (Below.al_ (Below.refl _ _).drew _)) (fun hH2 => ?_)
      clear hK K hH
      have hH := And.intro hH2 (blk_cl (w := w1.drew.alloc (.cells #[.string ⟨#[103, 111, 101, 115]⟩, .string ⟨#[98, 97, 99, 107]⟩, .string ⟨#[101, 110, 100, 101, 100]⟩, .string ⟨#[117, 110, 100, 111, 110, 101]⟩] 9)) (b := w1.heap.size) (k := 3) (heap_new rfl) rfl).1
      refine wpAnyH_mono (S' := fun w' => ((w'.cell? ⟨w.heap.size + 1, 0, none⟩ = some (.int .i64 3) ∧ w'.cell? ⟨w.heap.size + 1, 1, none⟩ = some (.slice B m d)) ∧ Below w1.heap.size w1 w') ∧ w'.cell? ⟨w1.heap.size, 3, none⟩ = some (.string ⟨#[117, 110, 100, 111, 110, 101]⟩)) (fun w h => h.1) _ _ _ _ ?_
      (try simp only [Act.put, List.setIfInBounds_toArray, List.set_cons_zero, List.set_cons_succ])
      refine wpAnyH_takeD (i := 3) (d := some 12) (v := ?v41) rfl (by rfl) (by kernel_rfl) (by kernel_rfl) (by kernel_rfl) (fun _ _ _ h => h) (Or.inl ⟨by rfl, ?y41⟩) hH ?r41
      case y41 => (intro w' hS; (try dsimp only at hS); go_simp; (try with_reducible rfl))
      (try simp only [Act.put, List.setIfInBounds_toArray, List.set_cons_zero, List.set_cons_succ])
      refine wpAnyH_takeD (i := 4) (d := some 13) (v := ?v42) rfl (by rfl) (by kernel_rfl) (by kernel_rfl) (by kernel_rfl) (fun _ _ _ h => h) (Or.inl ⟨by rfl, ?y42⟩) hH ?r42
      case y42 => (intro w' hS; (try dsimp only at hS); go_simp; (try with_reducible rfl))
      (try simp only [Act.put, List.setIfInBounds_toArray, List.set_cons_zero, List.set_cons_succ])
      refine wpAnyH_takeD (i := 5) (d := some 14) (v := ?v43) rfl (by rfl) (by kernel_rfl) (by kernel_rfl) (by kernel_rfl) (fun _ _ _ h => h) (Or.inl ⟨by rfl, ?y43⟩) hH ?r43
      case y43 => (intro w' hS; (try dsimp only at hS); go_simp; (try with_reducible rfl))
      (try simp only [Act.put, List.setIfInBounds_toArray, List.set_cons_zero, List.set_cons_succ])
      generalize hz5 : (⟨#[117, 110, 100, 111, 110, 101]⟩ ++ ⟨#[32]⟩ : Str) = z5
      have hs5 : z5.size ≤ 7 := by rw [← hz5, bsz_app]; show 6 + 1 ≤ 7; omega
      have HZ5 := Lib.hid hz5; clear hz5
      refine wpAnyH_ready (rs := [8]) (by kernel_rfl) (by simp) ?_
      refine AllReadyH.cons rfl (fun K hK => ?_) AllReadyH.nil
      go_wp2_with fail
      go_at_call 65
      refine (HNT.out _ (by repeat (first | with_reducible exact hbw | with_reducible exact Below.refl _ _ | apply Below.drew | apply Below.al_))).mono ?_
      rintro e w2 ⟨rfl, hbw, hb2⟩
      go_wp2_with fail
      refine hK.out _ _ ⟨HSB.out _ hbw, (hb2.cell (p := ⟨w1.heap.size, 3, none⟩) (by simp)).trans hH.2⟩ (fun hH3 => ?_)
      clear hK K hH
      have hH := hH3
      (try simp only [Act.put, List.setIfInBounds_toArray, List.set_cons_zero, List.set_cons_succ])
      refine wpAnyH_ready (rs := [9]) (by kernel_rfl) (by simp) ?_
      refine AllReadyH.cons rfl (fun K hK => ?_) AllReadyH.nil
      go_simp
      rw [if_neg (by omega)]
      (try simp only [Oper.upon])
      refine hK.out _ _ hH (fun _ => ?_)
      clear hK K
      (try simp only [Act.put, List.setIfInBounds_toArray, List.set_cons_zero, List.set_cons_succ])
      refine wpAnyH_takeD (i := 10) (d := some 4) (v := ?v44) rfl (by rfl) (by kernel_rfl) (by kernel_rfl) (by kernel_rfl) (fun _ _ _ h => h) (Or.inl ⟨by rfl, ?y44⟩) hH ?r44
      case y44 => (intro w' hS; (try dsimp only at hS); go_simp; (try with_reducible rfl))
      (try simp only [Act.put, List.setIfInBounds_toArray, List.set_cons_zero, List.set_cons_succ])
      refine wpAnyH_done (by kernel_rfl) ?_ _
      go_wp2_with fail
      go_ret
      exact ⟨ret_s (by rw [HE.out]; unfold rtS; rw [HND.out, HE3.out, HZ5.out]), HB1.out.trans ((by repeat (first | with_reducible exact hbw | with_reducible exact Below.refl _ _ | apply Below.drew | apply Below.al_) : Below w1.heap.size w1 _).mono HB1.out.size)⟩
    refine AllReadyH.cons rfl (fun K hK => ?_) AllReadyH.nil
    go_wp2_with fail
    go_at_call 65
    refine (HNT.out _ (by repeat (first | with_reducible exact hbw | with_reducible exact Below.refl _ _ | apply Below.drew | apply Below.al_))).mono ?_
    rintro e w2 ⟨rfl, hbw, hb2⟩
    go_wp2_with fail
    refine hK.out _ _ (HSB.out _ hbw) (fun hH2 => ?_)
    clear hK K hH
    have hH := hH2
    (try simp only [Act.put, List.setIfInBounds_toArray, List.set_cons_zero, List.set_cons_succ])
    refine wpAnyH_ready (rs := [0]) (by kernel_rfl) (by simp) ?_
    refine AllReadyH.cons rfl (fun K hK => ?_) AllReadyH.nil
    go_simp
    refine hK.out _ _ (HSB.out _ (Below.al_ hbw _)) (fun hH2 => ?_)
    clear hK K hH
    have hbx := hbw
    have hH := And.intro hH2 (blk_cl (w := w2.alloc (.cells #[.string ⟨#[103, 111, 101, 115]⟩, .string ⟨#[98, 97, 99, 107]⟩, .string ⟨#[101, 110, 100, 101, 100]⟩, .string ⟨#[117, 110, 100, 111, 110, 101]⟩] 9)) (b := w2.heap.size) (k := 3) (heap_new rfl) rfl).1
    refine wpAnyH_mono (S' := fun w' => ((w'.cell? ⟨w.heap.size + 1, 0, none⟩ = some (.int .i64 3) ∧ w'.cell? ⟨w.heap.size + 1, 1, none⟩ = some (.slice B m d)) ∧ Below w1.heap.size w1 w') ∧ w'.cell? ⟨w2.heap.size, 3, none⟩ = some (.string ⟨#[117, 110, 100, 111, 110, 101]⟩)) (fun w h => h.1) _ _ _ _ ?_
    (try simp only [Act.put, List.setIfInBounds_toArray, List.set_cons_zero, List.set_cons_succ])
    refine wpAnyH_takeD (i := 3) (d := some 12) (v := ?v45) rfl (by rfl) (by kernel_rfl) (by kernel_rfl) (by kernel_rfl) (fun _ _ _ h => h) (Or.inl ⟨by rfl, ?y45⟩) hH ?r45
    case y45 => (intro w' hS; (try dsimp only at hS); go_simp; (try with_reducible rfl))
    (try simp only [Act.put, List.setIfInBounds_toArray, List.set_cons_zero, List.set_cons_succ])
    refine wpAnyH_takeD (i := 4) (d := some 13) (v := ?v46) rfl (by rfl) (by kernel_rfl) (by kernel_rfl) (by kernel_rfl) (fun _ _ _ h => h) (Or.inl ⟨by rfl, ?y46⟩) hH ?r46
    case y46 => (intro w' hS; (try dsimp only at hS); go_simp; (try with_reducible rfl))
    (try simp only [Act.put, List.setIfInBounds_toArray, List.set_cons_zero, List.set_cons_succ])
    refine wpAnyH_takeD (i := 5) (d := some 14) (v := ?v47) rfl (by rfl) (by kernel_rfl) (by kernel_rfl) (by kernel_rfl) (fun _ _ _ h => h) (Or.inl ⟨by rfl, ?y47⟩) hH ?r47
    case y47 => (intro w' hS; (try dsimp only at hS); go_simp; (try with_reducible rfl))
    (try simp only [Act.put, List.setIfInBounds_toArray, List.set_cons_zero, List.set_cons_succ])
    generalize hz5 : (⟨#[117, 110, 100, 111, 110, 101]⟩ ++ ⟨#[32]⟩ : Str) = z5
    have hs5 : z5.size ≤ 7 := by rw [← hz5, bsz_app]; show 6 + 1 ≤ 7; omega
    have HZ5 := Lib.hid hz5; clear hz5
    refine wpAnyH_ready (rs := [9]) (by kernel_rfl) (by simp) ?_
    refine AllReadyH.cons rfl (fun K hK => ?_) AllReadyH.nil
    go_simp
    rw [if_neg (by omega)]
    (try simp only [Oper.upon])
    refine hK.out _ _ hH (fun _ => ?_)
    clear hK K
    (try simp only [Act.put, List.setIfInBounds_toArray, List.set_cons_zero, List.set_cons_succ])
    refine wpAnyH_takeD (i := 10) (d := some 4) (v := ?v48) rfl (by rfl) (by kernel_rfl) (by kernel_rfl) (by kernel_rfl) (fun _ _ _ h => h) (Or.inl ⟨by rfl, ?y48⟩) hH ?r48
    case y48 => (intro w' hS; (try dsimp only at hS); go_simp; (try with_reducible rfl))
    (try simp only [Act.put, List.setIfInBounds_toArray, List.set_cons_zero, List.set_cons_succ])
    refine wpAnyH_done (by kernel_rfl) ?_ _
    go_wp2_with fail
    go_ret
    exact ⟨ret_s (by rw [HE.out]; unfold rtS; rw [HND.out, HE3.out, HZ5.out]), HB1.out.trans ((by repeat (first | with_reducible exact hbw | with_reducible exact Below.refl _ _ | apply Below.drew | apply Below.al_) : Below w1.heap.size w1 _).mono HB1.out.size)⟩
  exfalso
  omega
end Go.Proofs.Ythcpjkhijjkolaa

/- FnExactRunText: the walk. -/
namespace Go.Proofs.Ythcpjkhijjkolaa
open Go.RowKit

set_option maxRecDepth 100000 in
set_option maxHeartbeats 4000000 in
theorem fnExactRunText_any (A B : Option Addr) (n c m d : Nat) (f : Flow) (st : Int) (done : List Str) (w : World) (hr : RStep w 0 A n f.steps) (hn : n ≤ maxLen) (hs : ∀ j, j < n → stepSz (nth f.steps j)) (hd : RStr w 0 B m done) (hm : m ≤ maxLen) (hds : ∀ j, j < m → (nth done j).size ≤ maxLen) :
    Calls Try.prog 3 #[.agg #[.int .i64 f.ver, .slice A n c], .agg #[.int .i64 st, .slice B m d]] w fun e w' => e = .returned (.bool true) ∧ Below w.heap.size w w' := by
  have HN := Lib.hid hn; clear hn
  have HS := Lib.hid hs; clear hs
  have HM := Lib.hid hm; clear hm
  have HDS := Lib.hid hds; clear hds
  have HX0 := Lib.hid (heap_old (o := .cells #[.int .i64 st, .slice B m d] 27) (heap_new (w := w) (o := .cells #[.int .i64 f.ver, .slice A n c] 24) rfl))
  have HY0 := Lib.hid (heap_new (w := w.alloc (.cells #[.int .i64 f.ver, .slice A n c] 24)) (b := w.heap.size + 1) (o := .cells #[.int .i64 st, .slice B m d] 27) (by simp))
  have HB0 := Lib.hid (((Below.refl w.heap.size w).alloc (Nat.le_refl _) (.cells #[.int .i64 f.ver, .slice A n c] 24)).alloc (by simp) (.cells #[.int .i64 st, .slice B m d] 27))
  have HR0 := Lib.hid ((hr.alloc (.cells #[.int .i64 f.ver, .slice A n c] 24)).alloc (.cells #[.int .i64 st, .slice B m d] 27)); clear hr
  have HD0 := Lib.hid ((hd.alloc (.cells #[.int .i64 f.ver, .slice A n c] 24)).alloc (.cells #[.int .i64 st, .slice B m d] 27)); clear hd
  have HK : Hid (∀ w', Below ((w.alloc (.cells #[.int .i64 f.ver, .slice A n c] 24)).alloc (.cells #[.int .i64 st, .slice B m d] 27)).heap.size ((w.alloc (.cells #[.int .i64 f.ver, .slice A n c] 24)).alloc (.cells #[.int .i64 st, .slice B m d] 27)) w' → ((w'.cell? ⟨w.heap.size, 0, none⟩ = some (.int .i64 f.ver) ∧ w'.cell? ⟨w.heap.size, 1, none⟩ = some (.slice A n c)) ∧ (w'.cell? ⟨w.heap.size + 1, 0, none⟩ = some (.int .i64 st) ∧ w'.cell? ⟨w.heap.size + 1, 1, none⟩ = some (.slice B m d))) ∧ RStep w' 0 A n f.steps ∧ RStr w' 0 B m done ∧ Below w.heap.size w w') := fun w' h => by
    have e1 := (h.block w.heap.size (by simp; omega)).trans HX0.out
    have e2 := (h.block (w.heap.size + 1) (by simp)).trans HY0.out
    exact ⟨⟨⟨(blk_cl (k := 0) e1 rfl).1, (blk_cl (k := 1) e1 rfl).1⟩, (blk_cl (k := 0) e2 rfl).1, (blk_cl (k := 1) e2 rfl).1⟩, HR0.out.below h, HD0.out.below h, HB0.out.trans (h.mono HB0.out.size)⟩
  go_enter Try.func3, Try.ntmps3
  go_wp2_with fail
  refine (szFlow_any _ _ _ f _ _ _ HR0.out HN.out HS.out (by omega) (by omega)).mono ?_
  rintro e w1 ⟨r, rfl, hr0, hr1, hb1⟩
  have HB1 := Lib.hid hb1; clear hb1
  by_cases hneg : r < 0
  · clear hr1
    go_wp2_with fail
    go_ret
    exact ⟨rfl, (HK.out _ HB1.out).2.2.2⟩
  obtain ⟨hle, hok⟩ := hr1 (by omega)
  have HOK := Lib.hid hok; clear hok
  obtain ⟨⟨⟨a0, a1⟩, b0, b1⟩, _⟩ := HK.out _ HB1.out
  go_wp2_with fail
  refine (szRun_any _ _ _ st done _ _ _ (HK.out _ HB1.out).2.2.1 HM.out HDS.out (by omega) (by omega)).mono ?_
  rintro e w2 ⟨r2, rfl, hr20, hr21, hb2⟩
  have HB2 := Lib.hid (HB1.out.trans (hb2.mono HB1.out.size)); clear hb2 a0 a1 b0 b1
  by_cases hneg2 : r2 < 0
  · clear hr21
    go_wp2_with fail
    go_ret
    exact ⟨rfl, (HK.out _ HB2.out).2.2.2⟩
  obtain ⟨_, hm1⟩ := hr21 (by omega)
  have HSB : Hid (∀ w', Below w2.heap.size w2 w' → ((w'.cell? ⟨w.heap.size, 0, none⟩ = some (.int .i64 f.ver) ∧ w'.cell? ⟨w.heap.size, 1, none⟩ = some (.slice A n c)) ∧ (w'.cell? ⟨w.heap.size + 1, 0, none⟩ = some (.int .i64 st) ∧ w'.cell? ⟨w.heap.size + 1, 1, none⟩ = some (.slice B m d))) ∧ Below w2.heap.size w2 w') := fun w' h => ⟨(HK.out _ (HB2.out.trans (h.mono HB2.out.size))).1, h⟩
  have HTF : Hid (∀ cur, Below w2.heap.size w2 cur → Calls Try.prog 17 #[.agg #[.int .i64 f.ver, .slice A n c]] cur fun e w' => ∃ A' c', e = .returned (.agg #[.int .i64 f.ver, .slice A' n c']) ∧ RStep w' cur.heap.size A' n f.steps ∧ Below cur.heap.size cur w' ∧ Below w2.heap.size w2 w') := fun cur h =>
    (toFlow_any _ _ _ f _ _ (HK.out _ (HB2.out.trans (h.mono HB2.out.size))).2.1 HOK.out).mono fun e w' ⟨A', c', he, h1, h2⟩ => ⟨A', c', he, h1, h2, h.trans (h2.mono h.size)⟩
  have HTR : Hid (∀ cur, Below w2.heap.size w2 cur → Calls Try.prog 18 #[.agg #[.int .i64 st, .slice B m d]] cur fun e w' => ∃ A' c', e = .returned (.agg #[.int .i64 st, .slice A' m c']) ∧ RStr w' cur.heap.size A' m done ∧ m ≤ c' ∧ Below cur.heap.size cur w' ∧ Below w2.heap.size w2 w') := fun cur h =>
    (toRun_any _ _ _ st done _ _ (HK.out _ (HB2.out.trans (h.mono HB2.out.size))).2.2.1 hm1).mono fun e w' ⟨A', c', he, h1, h2, h3⟩ => ⟨A', c', he, h1, h3, h2, h.trans (h2.mono h.size)⟩
  go_wp2_with fail
  go_region_held3 (fun w' => ((w'.cell? ⟨w.heap.size, 0, none⟩ = some (.int .i64 f.ver) ∧ w'.cell? ⟨w.heap.size, 1, none⟩ = some (.slice A n c)) ∧ (w'.cell? ⟨w.heap.size + 1, 0, none⟩ = some (.int .i64 st) ∧ w'.cell? ⟨w.heap.size + 1, 1, none⟩ = some (.slice B m d))) ∧ Below w2.heap.size w2 w')
    ((refine HSB.out _ ?_; (repeat (first | with_reducible exact hbw | with_reducible exact Below.refl _ _ | apply Below.drew | fail "x")); done))
    (first
      | (go_at_call 17; refine (HTF.out _ (by (repeat (first | with_reducible exact hbw | with_reducible exact Below.refl _ _ | apply Below.drew | fail "x")); done)).mono ?_; rintro e w3 ⟨A3, c3, rfl, h3, hb3, hbw⟩; (first | (replace h4 := h4.below hb3) | skip))
      | (go_at_call 18; refine (HTR.out _ (by (repeat (first | with_reducible exact hbw | with_reducible exact Below.refl _ _ | apply Below.drew | fail "x")); done)).mono ?_; rintro e w4 ⟨B4, d4, rfl, h4, hmd4, hb4, hbw⟩; (first | (replace h3 := h3.below hb4) | skip))
      | (go_at_call 16; refine (runTextS_any _ _ _ _ _ _ f st done _ _ _ h3 HOK.out h4 hm1 hmd4).mono ?_; rintro e w4 ⟨rfl, hbt⟩; replace hbw := hbw.trans (hbt.mono hbw.size))
      | fail "no arm")
  all_goals
    have HB4 := Lib.hid (HB2.out.trans (hbw.mono HB2.out.size))
    clear hbw
    obtain ⟨⟨⟨a0, a1⟩, b0, b1⟩, _⟩ := HK.out _ HB4.out
    go_wp2_with fail
    refine (toFlow_any _ _ _ f _ _ (HK.out _ HB4.out).2.1 HOK.out).mono ?_
    rintro e w5 ⟨A5, c5, rfl, h5, hb5⟩
    have HB5a := HB4.out.trans (hb5.mono HB4.out.size)
    have HB5 := Lib.hid (HB5a.alloc HB5a.size (.cells #[.int .i64 f.ver, .slice A5 n c5] 33))
    have H5 := Lib.hid (h5.alloc (.cells #[.int .i64 f.ver, .slice A5 n c5] 33)); clear h5
    have HY5 := Lib.hid (heap_new (w := w5) (o := .cells #[.int .i64 f.ver, .slice A5 n c5] 33) rfl)
    clear a0 a1 b0 b1 HB5a hb5
    obtain ⟨⟨⟨a0, a1⟩, b0, b1⟩, _⟩ := HK.out _ HB5.out
    go_wp2_with fail
    refine (toRun_any _ _ _ st done _ _ (HK.out _ HB5.out).2.2.1 hm1).mono ?_
    rintro e w6 ⟨B6, d6, rfl, h6, hb6, hmd6⟩
    have HB6a := HB5.out.trans (hb6.mono HB5.out.size)
    have HB6 := Lib.hid (HB6a.alloc HB6a.size (.cells #[.int .i64 st, .slice B6 m d6] 35))
    have H6 := Lib.hid (h6.alloc (.cells #[.int .i64 st, .slice B6 m d6] 35)); clear h6
    have H56 := Lib.hid ((H5.out.below hb6).alloc (.cells #[.int .i64 st, .slice B6 m d6] 35))
    have HY56 := Lib.hid (heap_old (o := .cells #[.int .i64 st, .slice B6 m d6] 35) ((hb6.block w5.heap.size (heap_lt HY5.out)).trans HY5.out))
    have HZ6 := Lib.hid (heap_new (w := w6) (o := .cells #[.int .i64 st, .slice B6 m d6] 35) rfl)
    clear a0 a1 b0 b1 HB6a hb6
    have x0 := (blk_cl (k := 0) HY56.out rfl).1
    have x1 := (blk_cl (k := 1) HY56.out rfl).1
    go_wp2_with fail
    refine (runTextI_any _ _ _ _ _ _ f st done _ _ _ H56.out HOK.out H6.out hm1 hmd6).mono ?_
    rintro e w7 ⟨rfl, hb7⟩
    have HB7 := Lib.hid (HB6.out.trans (hb7.mono HB6.out.size))
    have H57 := Lib.hid (H56.out.below hb7)
    have H67 := Lib.hid (H6.out.below hb7)
    have HY7 := Lib.hid ((hb7.block w5.heap.size (heap_lt HY56.out)).trans HY56.out)
    have HZ7 := Lib.hid ((hb7.block w6.heap.size (heap_lt HZ6.out)).trans HZ6.out)
    clear x0 x1 hb7
    have HSB7 : Hid (∀ w', Below w7.heap.size w7 w' → (((w'.cell? ⟨w.heap.size, 0, none⟩ = some (.int .i64 f.ver) ∧ w'.cell? ⟨w.heap.size, 1, none⟩ = some (.slice A n c)) ∧ (w'.cell? ⟨w.heap.size + 1, 0, none⟩ = some (.int .i64 st) ∧ w'.cell? ⟨w.heap.size + 1, 1, none⟩ = some (.slice B m d))) ∧ ((w'.cell? ⟨w5.heap.size, 0, none⟩ = some (.int .i64 f.ver) ∧ w'.cell? ⟨w5.heap.size, 1, none⟩ = some (.slice A5 n c5)) ∧ (w'.cell? ⟨w6.heap.size, 0, none⟩ = some (.int .i64 st) ∧ w'.cell? ⟨w6.heap.size, 1, none⟩ = some (.slice B6 m d6)))) ∧ Below w7.heap.size w7 w') := fun w' h => by
      have e1 := (h.block _ (heap_lt HY7.out)).trans HY7.out
      have e2 := (h.block _ (heap_lt HZ7.out)).trans HZ7.out
      exact ⟨⟨(HK.out _ (HB7.out.trans (h.mono HB7.out.size))).1, ⟨(blk_cl (k := 0) e1 rfl).1, (blk_cl (k := 1) e1 rfl).1⟩, (blk_cl (k := 0) e2 rfl).1, (blk_cl (k := 1) e2 rfl).1⟩, h⟩
    have HTF7 : Hid (∀ cur, Below w7.heap.size w7 cur → Calls Try.prog 17 #[.agg #[.int .i64 f.ver, .slice A n c]] cur fun e w' => ∃ A' c', e = .returned (.agg #[.int .i64 f.ver, .slice A' n c']) ∧ RStep w' cur.heap.size A' n f.steps ∧ Below w7.heap.size w7 w') := fun cur h =>
      (toFlow_any _ _ _ f _ _ (HK.out _ (HB7.out.trans (h.mono HB7.out.size))).2.1 HOK.out).mono fun e w' ⟨A', c', he, h1, h2⟩ => ⟨A', c', he, h1, h.trans (h2.mono h.size)⟩
    have HTR7 : Hid (∀ cur, Below w7.heap.size w7 cur → Calls Try.prog 18 #[.agg #[.int .i64 st, .slice B m d]] cur fun e w' => ∃ A' c', e = .returned (.agg #[.int .i64 st, .slice A' m c']) ∧ RStr w' cur.heap.size A' m done ∧ Below w7.heap.size w7 w') := fun cur h =>
      (toRun_any _ _ _ st done _ _ (HK.out _ (HB7.out.trans (h.mono HB7.out.size))).2.2.1 hm1).mono fun e w' ⟨A', c', he, h1, h2, _⟩ => ⟨A', c', he, h1, h.trans (h2.mono h.size)⟩
    generalize rtT f st done = z at *
    have hq2 : (z.toList != z.toList) = false := by simp
    go_wp2_with fail
    go_region_held3 (fun w' => (((w'.cell? ⟨w.heap.size, 0, none⟩ = some (.int .i64 f.ver) ∧ w'.cell? ⟨w.heap.size, 1, none⟩ = some (.slice A n c)) ∧ (w'.cell? ⟨w.heap.size + 1, 0, none⟩ = some (.int .i64 st) ∧ w'.cell? ⟨w.heap.size + 1, 1, none⟩ = some (.slice B m d))) ∧ ((w'.cell? ⟨w5.heap.size, 0, none⟩ = some (.int .i64 f.ver) ∧ w'.cell? ⟨w5.heap.size, 1, none⟩ = some (.slice A5 n c5)) ∧ (w'.cell? ⟨w6.heap.size, 0, none⟩ = some (.int .i64 st) ∧ w'.cell? ⟨w6.heap.size, 1, none⟩ = some (.slice B6 m d6)))) ∧ Below w7.heap.size w7 w')
      ((refine HSB7.out _ ?_; (repeat (first | with_reducible exact hbw | with_reducible exact Below.refl _ _ | apply Below.drew | fail "x")); done))
      (first
        | (go_at_call 17; refine (HTF7.out _ (by (repeat (first | with_reducible exact hbw | with_reducible exact Below.refl _ _ | apply Below.drew | fail "x")); done)).mono ?_; rintro e w8 ⟨A8, c8, rfl, h8, hbw⟩)
        | (go_at_call 20; refine (eqFlow_same _ _ _ _ _ f _ _ _ (H57.out.below hbw) HOK.out h8).mono ?_; rintro e w9 ⟨rfl, hb9⟩; replace hbw := hbw.trans (hb9.mono hbw.size))
        | fail "no arm")
    go_wp2_with fail
    go_region_held3 (fun w' => (((w'.cell? ⟨w.heap.size, 0, none⟩ = some (.int .i64 f.ver) ∧ w'.cell? ⟨w.heap.size, 1, none⟩ = some (.slice A n c)) ∧ (w'.cell? ⟨w.heap.size + 1, 0, none⟩ = some (.int .i64 st) ∧ w'.cell? ⟨w.heap.size + 1, 1, none⟩ = some (.slice B m d))) ∧ ((w'.cell? ⟨w5.heap.size, 0, none⟩ = some (.int .i64 f.ver) ∧ w'.cell? ⟨w5.heap.size, 1, none⟩ = some (.slice A5 n c5)) ∧ (w'.cell? ⟨w6.heap.size, 0, none⟩ = some (.int .i64 st) ∧ w'.cell? ⟨w6.heap.size, 1, none⟩ = some (.slice B6 m d6)))) ∧ Below w7.heap.size w7 w')
      ((refine HSB7.out _ ?_; (repeat (first | with_reducible exact hbw | with_reducible exact Below.refl _ _ | apply Below.drew | fail "x")); done))
      (first
        | (go_at_call 18; refine (HTR7.out _ (by (repeat (first | with_reducible exact hbw | with_reducible exact Below.refl _ _ | apply Below.drew | fail "x")); done)).mono ?_; rintro e w8 ⟨A9, c9, rfl, h9, hbw⟩)
        | (go_at_call 21; refine (eqRun_same _ _ _ _ _ st done _ _ _ (H67.out.below hbw) hm1 h9).mono ?_; rintro e w9 ⟨rfl, hb9⟩; replace hbw := hbw.trans (hb9.mono hbw.size))
        | fail "no arm")
    go_wp2_with fail
    go_ret
    exact ⟨rfl, (HK.out _ (HB7.out.trans (hbw.mono HB7.out.size))).2.2.2⟩
end Go.Proofs.Ythcpjkhijjkolaa

/- FnExactRunText returns true at every input, and leaves its arguments as they were. No condition. -/
namespace Go.Proofs.Ythcpjkhijjkolaa
open Go.ChangeShapes Go.WideShapes Go.ChangeAt Go.RowKit

set_option maxRecDepth 100000 in
theorem fnExactRunText_lifted (os : Os) (started : os.Started) (H : Type) (enc : TypeId × Value → H) :
    ReturnsInHanded {} Try.checked os 3 .any (Rows.fnExactRunTextSpec.pre6 enc Try.prog Try.f3 Rows.fnExactRunTextRow.domain false) (Rows.fnExactRunTextSpec.post enc Try.prog Try.f3 false true false false) := by
  refine returnsInHanded_of_change (C := Try.checked) Try.own started (by kernel_rfl) Try.func3
    (ChangeSpec.witness6 (enc := enc) (C := Try.checked) false ⟨#[], #[.agg #[.int .i64 0, .slice none 0 0], .agg #[.int .i64 0, .slice none 0 0]], []⟩ 8 (by kernel_rfl) (by kernel_rfl) (by kernel_rfl) (by kernel_rfl)) ?_
  intro W base args ds gs before hval0 hW hcnd _
  have hval : ∀ (j : Nat) t v, Try.f3.params[j]? = some t → args[j]? = some v → Value.okWide Try.prog W .any base t v := hval0
  have hW' := hW
  obtain ⟨p, q, hA0, hV, rfl, hfz, hnd⟩ := hW
  have hA : DataW.TrodAll enc Try.prog W 0 (fun _ => true) true Try.f3.params.toList args.toList ds p := hA0
  rw [Try.params3] at hA hval
  obtain ⟨v0, v1, d0, d1, p0, p1, rfl, rfl, rfl, h0, h1⟩ := trodAll_two hA
  obtain ⟨rfl, rfl⟩ := trodVars_none hV
  have h0k := h0
  have h1k := h1
  obtain ⟨fuel, hf⟩ := h0
  obtain ⟨fuel1, hf1⟩ := h1
  simp only [List.append_nil] at hW' hfz
  have hlt : ∀ x ∈ p0 ++ p1, x.block < W.heap.size := fun x hx => hW'.lt x hx
  obtain ⟨ver, A, n, c, ss, rfl, hr, hn, hs⟩ := open_flow (hval 0 24 v0 rfl rfl) hf (fun b off hb => hfz b off (List.mem_append_left _ hb))
  obtain ⟨st, B, m, d, xs, rfl, hd, _, hm, hc⟩ := open_run (hval 1 27 v1 rfl rfl) hf1 (fun b off hb => hfz b off (List.mem_append_right _ hb))
  clear hA0 hval0 hA
  refine (fnExactRunText_any A B n c m d ⟨ver, ss⟩ st xs W hr hn hs hd hm hc).mono fun e W' ⟨he, hb⟩ => ?_
  subst he
  exact ⟨_, rfl, post_law hW' rfl (by kernel_rfl) Try.underlying4 rfl rfl rfl (trodAll_mk2 (Below.trod Try.laidOut (by kernel_rfl) (of_decide_eq_true (by kernel_rfl)) h0k hb (fun x hx => hlt x (List.mem_append_left _ hx))) (Below.trod Try.laidOut (by kernel_rfl) (of_decide_eq_true (by kernel_rfl)) h1k hb (fun x hx => hlt x (List.mem_append_right _ hx)))) hb⟩

theorem fnExactRunText_holds : Rows.FnExactRunTextSaid :=
  OpenClaim.holds_of_wide 3 Try.f3 rfl rfl rfl rfl rfl rfl rfl ⟨rfl, rfl, rfl, rfl, rfl⟩ rfl rfl rfl rfl rfl (by kernel_rfl) Try.func3 (by kernel_rfl)
    (of_decide_eq_true (by kernel_rfl)) (by unfold Func.isWrapper; rw [if_neg (by decide +kernel)]; exact ⟨rfl, rfl⟩)
    (fun os started H enc _ => fnExactRunText_lifted os started H enc)
end Go.Proofs.Ythcpjkhijjkolaa
