/- append onto a row of the call's own, at the types of the translation. -/
import Derived.Test.YtnlibaoegfdoeaaRows
import Derived.Test.YtnlibaoegfdoeaaBase
import Derived.Maps.AppendAt
namespace Go.Proofs.Ytnlibaoegfdoeaa
open Go.RowKit

theorem info_str : (Try.prog.info? 9).map (fun i => (i.zero, i.size, i.bytes)) = some (some (.string ⟨#[]⟩), 1, 16) := by kernel_rfl

/-- 'out = append(out, s)'. -/
theorem app_str {w : World} {ops : Array Oper} {rest : List Oper} {o : Oper} {a : Act} {Q : Exit → Act → World → Prop} (w0 : World) (v : Value) (n : Nat) (ys : List Str) (b : Nat) (s : Str) (hown : Own 9 1 w0 w v n (ys.map Value.string))
    (hgd : o.guard = none) (l x : Operand) (ho : o.op = .call { callee := .builtin .append, args := #[l, x], argTypes := #[27, 27] })
    (hs : a.eval l = v) (hx : a.eval x = .slice (some ⟨b, 0, none⟩) 1 1) (hb : w.heap[b]? = some (.cells #[.string s] 9 (0, 0))) (hn : n ≤ 1048576)
    (h : ∀ v' w', Own 9 1 w0 w' v' (n + 1) ((ys ++ [s]).map Value.string) → w.grownBy w' v.ownBlock → wpList Try.prog ops Q rest (a.put o.dst v') w') : wpList Try.prog ops Q (o :: rest) a w := by
  obtain ⟨i0, hi0, hz0, hz1, hz2⟩ := info_parts info_str
  refine wpList_append_own w hgd l x 27 ho w0.heap.size 9 i0 _ 1 16 Try.underlying27 hi0 hz0 hz1 hz2 rfl (by omega) v n _ hs hown.row ⟨b, 0, none⟩ 1 1 [.string s] hx rfl ?_ ?_ (by unfold maxLen; omega) (by omega) hown.below.size ?_
  · intro j u hu
    match j, hu with
    | 0, hu =>
      have : u = .string s := by simpa using hu.symm
      subst this
      simp [World.cell?, hb, Addr.add]
  · simp [Value.oneCell']
  · intro v' w' h1 h2 _
    have h1' : w'.ownsRow w0.heap.size 9 1 v' (n + 1) ((ys ++ [s]).map Value.string) := by simpa using h1
    exact h v' w' (hown.next h1' h2) h2

theorem info_int : (Try.prog.info? 3).map (fun i => (i.zero, i.size, i.bytes)) = some (some (.int .i64 0), 1, 8) := by kernel_rfl
theorem info_guard : (Try.prog.info? 33).map (fun i => (i.zero, i.size, i.bytes)) = some (some (.agg #[.string ⟨#[]⟩, .int .i64 0, .int .i64 0]), 3, 32) := by kernel_rfl

/-- append of one element, cells 'news' in a block just made: at a single operation. -/
theorem wapp {w : World} {o : Oper} {a : Act} {K : Act → World → Prop} {Q : Exit → Act → World → Prop} (T e size bytes : Nat) (z : Value)
    (hT : Try.prog.underlying T = some (.slice e)) (hi : (Try.prog.info? e).map (fun i => (i.zero, i.size, i.bytes)) = some (some z, size, bytes)) (hzs : z.cells.size = size) (hsz : 0 < size) (hbs : bytes ≤ 64)
    (base : Nat) (v : Value) (n : Nat) (cs news : List Value) (b : Nat) (hown : w.ownsRow base e size v n cs)
    (l x : Operand) (ho : o.op = .call { callee := .builtin .append, args := #[l, x], argTypes := #[T, T] })
    (hs : a.eval l = v) (hx : a.eval x = .slice (some ⟨b, 0, none⟩) 1 1) (hb : w.heap[b]? = some (.cells news.toArray e (0, 0))) (hnl : news.length = size) (h1 : ∀ u ∈ news, u.oneCell' = true) (hn : n ≤ 1048576) (hbase : base ≤ w.heap.size)
    (h : ∀ v' w', w'.ownsRow base e size v' (n + 1) (cs ++ news) → w.grownBy w' v.ownBlock → (v'.ownBlock = v.ownBlock ∨ v'.ownBlock = some w.heap.size) → K (a.put o.dst v') w') : o.wp Try.prog a w K Q := by
  obtain ⟨i0, hi0, hz0, hz1, hz2⟩ := info_parts hi
  have hbytes : (n + 1) * bytes ≤ 140737488355328 := by
    have : (n + 1) * bytes ≤ 1048577 * 64 := Nat.mul_le_mul (by omega) hbs
    omega
  obtain ⟨v', w', hr, h2, h3, _, h5⟩ := run_append_own_at (P := Try.prog) w base T o.type e i0 z size bytes hT hi0 hz0 hz1 hz2 hzs hsz v n cs hown ⟨b, 0, none⟩ 1 1 news (by omega) (by
    intro j u hu
    have : (⟨b, 0, none⟩ : Addr).add j = ⟨b, j, none⟩ := by unfold Addr.add; split <;> simp_all
    rw [this]
    exact (blk_cl hb (by simpa using hu)).1) h1 (by unfold maxLen; omega) hbytes hbase
  unfold Oper.wp execOp
  simp only [ho, resolve, invoke, builtin, Sem.run_bind, Sem.run_pure, Result.andThen_ok, List.map_toArray, List.map_cons, List.map_nil, hs, hx, hr]
  exact h v' w' h2 h3 h5

theorem gapp_step {w : World} {ops : Array Oper} {o : Oper} {a : Act} {K : Act → World → Prop} {Q : Exit → Act → World → Prop} {E : Prop} (base : Nat) (v : Value) (n : Nat) (gs : List Guard) (b : Nat) (x : Guard) (hown : w.ownsRow base 33 3 v n (gs.flatMap gcells))
    (hgd : o.guard = none) (l r : Operand) (ho : o.op = .call { callee := .builtin .append, args := #[l, r], argTypes := #[23, 23] })
    (hs : a.eval l = v) (hx : a.eval r = .slice (some ⟨b, 0, none⟩) 1 1) (hb : w.heap[b]? = some (.cells #[.string x.name, .int .i64 x.var, .int .i64 x.least] 33 (0, 0))) (hn : n ≤ 1048576) (hbase : base ≤ w.heap.size)
    (h : ∀ v' w', w'.ownsRow base 33 3 v' (n + 1) ((gs ++ [x]).flatMap gcells) → w.grownBy w' v.ownBlock → (v'.ownBlock = v.ownBlock ∨ v'.ownBlock = some w.heap.size) → K (a.put o.dst v') w') :
    if Region.wanted o (yielded ops a.tmps) = true then Oper.wp Try.prog o a w K Q else E := by
  have hw : Region.wanted o (yielded ops a.tmps) = true := by simp [Region.wanted, hgd]
  rw [if_pos hw]
  refine wapp 23 33 3 32 _ Try.underlying23 info_guard rfl (by omega) (by omega) base v n _ (gcells x) b hown l r ho hs hx hb rfl ?_ hn hbase ?_
  · intro u hu; simp [gcells] at hu; rcases hu with rfl | rfl | rfl <;> rfl
  · intro v' w' h1 h2 h3
    exact h v' w' (by rw [List.flatMap_append]; simpa using h1) h2 h3
end Go.Proofs.Ytnlibaoegfdoeaa
