/-
  The walk of Nodes.
-/
import Derived.Test.YtmdffmajnbokeaaPlW4
namespace Go.Proofs.Ytmdffmajnbokeaa
open Go.RowKit StrMath PlMath
set_option linter.unusedVariables false
theorem wpl_look {ops : Array Oper} {rest : List Oper} {o : Oper} {a : Act} {Q : Exit → Act → World → Prop} {w : World} (hg : o.guard = none) (m x : Operand) (hop : o.op = Op.lookup 54 m x true)
    (b N : Nat) (D : DataW Unit) (f : Int → Option Int) (hown : w.ownsMap Try.prog 3 (plainElem Try.prog 3) b N D) (hD : MapIs D f) (k : Int) (hm : a.eval m = .map (some b)) (hx : a.eval x = .int .i64 k) (wk : (Lit.int .i64 k).wf = true)
    (z : Int) (t : Bool) (hz : (f k).getD 0 = z) (ht : (f k).isSome = t) (h : wpList Try.prog ops Q rest (a.put o.dst (.tuple #[.int .i64 z, .bool t])) w) : wpList Try.prog ops Q (o :: rest) a w := by
  refine wpList_lookup_own_ok_int w hg m x 54 hop 3 3 .i64 lawInt Try.underlying54 Try.underlying3 (zeroInt w) b N D hm hown (.int .i64 k) (ik k) hx (Go.Maps.keyOf_int_mk Try.underlying3 wk) ?_
  intro c hat _
  have h1 := hD.2 k
  rw [h1.2] at hat
  have hc : (f k).getD 0 = c := by injection hat with hat; injection hat
  have e1 : c = z := by rw [← hc, hz]
  have e2 : Go.Maps.has D (ik k) = t := by rw [h1.1, ht]
  rw [e1, e2]
  exact h
theorem wpl_app {ops : Array Oper} {rest : List Oper} {o : Oper} {a : Act} {Q : Exit → Act → World → Prop} {w wr : World} {bx b N : Nat} {cs : Array Value} {f : Int → Option Int} {v : Value} {l : List Int} (hg : o.guard = none) (s x : Operand)
    (ho : o.op = .call { callee := .builtin .append, args := #[s, x], argTypes := #[26, 26] }) (hst : Sta w bx b N cs f v l wr) (hl : l.length ≤ 1000) (y : Int) (hs : a.eval s = v) (hx : a.eval x = .slice (some ⟨wr.heap.size, 0, none⟩) 1 1)
    (h : ∀ v' w', Hid (Sta w bx b N cs f v' (l ++ [y]) w') → wpList Try.prog ops Q rest (a.put o.dst v') w') : wpList Try.prog ops Q (o :: rest) a (wr.alloc (.cells #[.int .i64 y] 3)) := by
  obtain ⟨i, hi, h2, h3, h4⟩ := info_parts Try.infoI64
  have hst' := hst.alloc (.cells #[.int .i64 y] 3)
  exact wpList_append_any _ hg s x 26 ho w.heap.size 3 i (.int .i64 0) 1 8 Try.underlying26 hi h2 h3 h4 rfl (by decide) v l.length (l.map iv) hs hst'.row (wr.heap.size + 1) (some ⟨wr.heap.size, 0, none⟩) 1 1 [iv y] hx
    (Reads.lit1 wr 3 (iv y)) (by intro u hu; rw [List.mem_singleton.1 hu]; rfl) (by unfold maxLen; omega) (by omega) hst'.bel.size fun v' w' k1 k2 _ => h v' w' (Lib.hid (hst'.appended k1 k2))
theorem wpl_del {ops : Array Oper} {rest : List Oper} {o : Oper} {a : Act} {Q : Exit → Act → World → Prop} {w wr : World} {bx b N : Nat} {cs : Array Value} {f : Int → Option Int} {v : Value} {l : List Int} (hg : o.guard = none) (m x : Operand)
    (ho : o.op = Op.call { callee := Callee.builtin Builtin.delete, args := #[m, x], argTypes := #[54, 3] }) (hst : Sta w bx b N cs f v l wr) (k : Int) (hm : a.eval m = .map (some b)) (hx : a.eval x = .int .i64 k) (wk : (Lit.int .i64 k).wf = true)
    (h : ∀ w', Hid (Sta w bx b N cs (fun j => if j = k then none else f j) v l w') → wpList Try.prog ops Q rest (a.put o.dst (.tuple #[])) w') : wpList Try.prog ops Q (o :: rest) a wr := by
  obtain ⟨D, hown, hD⟩ := hst.mp
  exact wpList_delete_own wr hg m x 54 3 ho 3 lawInt Try.underlying54 _ b N D hm hown (.int .i64 k) (ik k) hx (Go.Maps.keyOf_int_mk Try.underlying3 wk)
    fun w' k1 k2 => h w' (Lib.hid (hst.turned k2.grown ⟨_, k1, hD.del k⟩))
theorem wpl_put {ops : Array Oper} {rest : List Oper} {o : Oper} {a : Act} {Q : Exit → Act → World → Prop} {w wr : World} {bx b N : Nat} {cs : Array Value} {f : Int → Option Int} {v : Value} {l : List Int} (hg : o.guard = none) (m x y : Operand)
    (ho : o.op = Op.mapUpdate 54 m x y) (hst : Sta w bx b N cs f v l wr) (hN : N ≤ 1000) (k z : Int) (hm : a.eval m = .map (some b)) (hx : a.eval x = .int .i64 k) (hy : a.eval y = .int .i64 z) (wk : (Lit.int .i64 k).wf = true) (wz : (Lit.int .i64 z).wf = true)
    (h : ∀ w', Hid (Sta w bx b (N + 1) cs (fun j => if j = k then some z else f j) v l w') → wpList Try.prog ops Q rest (a.put o.dst undef) w') : wpList Try.prog ops Q (o :: rest) a wr := by
  obtain ⟨D, hown, hD⟩ := hst.mp
  exact wpList_mapUpdate_own wr hg m x y 54 ho 3 3 lawInt Try.underlying54 _ b N D hm hown (by unfold maxLen; omega) (.int .i64 k) (.int .i64 z) (ik k) hx hy (Go.Maps.keyOf_int_mk Try.underlying3 wk) (.lit (.int .i64 z)) [] (plainElem_int Try.underlying3 wz)
    fun w' k1 k2 => h w' (Lib.hid (hst.turned k2 ⟨_, k1, hD.put k z⟩))
end Go.Proofs.Ytmdffmajnbokeaa
