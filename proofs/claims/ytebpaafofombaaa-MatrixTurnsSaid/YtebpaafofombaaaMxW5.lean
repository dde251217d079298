/-
  A matrix that grows row by row.
-/
import Derived.Test.YtebpaafofombaaaMxW4
namespace Go.Proofs.Ytebpaafofombaaa
open Go.RowKit GfMath MxMath
set_option linter.unusedVariables false
theorem Try.info22 : (Try.prog.info? 22).map (fun i => (i.zero, i.size, i.bytes)) = some (some (.slice none 0 0), 1, 24) := by kernel_rfl
/-- A matrix of the call's own that grows; what was there stays. -/
structure MSt (w : World) (v : Value) (ls : List (List Nat)) (wr : World) : Prop where
  own : OwnM wr w.heap.size v ls
  bel : Below w.heap.size w wr
theorem RowsOwn.nil (w : World) (base : Nat) : RowsOwn w base [] [] := ⟨rfl, fun i l h => by simp at h⟩
theorem MSt.nil {w wr : World} (hb : Below w.heap.size w wr) : MSt w (.slice none 0 0) [] wr := ⟨⟨[], ⟨rfl, .inl ⟨rfl, rfl⟩⟩, RowsOwn.nil _ _⟩, hb⟩
section
variable {w wr w' : World} {v v' u : Value} {ls : List (List Nat)} {l : List Nat} {vs : List Value} {base : Nat}
theorem RowsOwn.snoc (h : RowsOwn w base vs ls) (hu : w.ownsRow base 5 1 u l.length (l.map bv)) (hb : Byt l) : RowsOwn w base (vs ++ [u]) (ls ++ [l]) := by
  refine ⟨by rw [List.length_append, List.length_append, h.1]; rfl, fun i k hk => ?_⟩
  rcases Nat.lt_or_ge i ls.length with hi | hi
  · rw [List.getElem?_append_left hi] at hk
    obtain ⟨v, hv, ho, hy⟩ := h.2 i k hk
    exact ⟨v, by rw [List.getElem?_append_left (by rw [h.1]; exact hi)]; exact hv, ho, hy⟩
  · rw [List.getElem?_append_right hi] at hk
    have hi0 : i - ls.length = 0 := by
      rcases Nat.eq_zero_or_pos (i - ls.length) with h0 | h0
      · exact h0
      · rw [List.getElem?_eq_none (by simp; omega)] at hk; cases hk
    rw [hi0] at hk
    simp only [List.getElem?_cons_zero, Option.some.injEq] at hk
    subst hk
    exact ⟨u, by rw [List.getElem?_append_right (by rw [h.1]; exact hi), h.1, hi0]; rfl, hu, hb⟩
theorem RowsOwn.kept {row : Option Nat} (h : RowsOwn w base vs ls) (hg : w.grownBy w' row) (hn : ∀ v l, w.ownsRow base 5 1 v (l : List Value).length l → v.ownBlock = none ∨ v.ownBlock ≠ row) : RowsOwn w' base vs ls :=
  ⟨h.1, fun i l hl => let ⟨v, hv, ho, hy⟩ := h.2 i l hl; ⟨v, hv, ho.kept hg (hn v (l.map bv) (by rw [List.length_map]; exact ho)), hy⟩⟩
/-- A row's block is none of an outer slice's. -/
theorem row_apart {t : TypeId} {n m size : Nat} {xs ys : List Value} {base' : Nat} (h : w.ownsRow base 5 1 u n xs) (h' : w.ownsRow base' 22 size v m ys) : u.ownBlock = none ∨ u.ownBlock ≠ v.ownBlock := by
  cases e : v.ownBlock with
  | none =>
    cases e2 : u.ownBlock with
    | none => exact .inl rfl
    | some k => right; simp
  | some g => exact .inr (own_apart h h' (by decide) e)
theorem RowsOwn.alloc (h : RowsOwn w base vs ls) (o : Obj) : RowsOwn (w.alloc o) base vs ls := h.below ((Below.refl _ _).alloc (Nat.le_refl _) _)
theorem MSt.alloc (h : MSt w v ls wr) (o : Obj) : MSt w v ls (wr.alloc o) := ⟨h.own.below ((Below.refl _ _).alloc (Nat.le_refl _) _), h.bel.alloc h.bel.size o⟩
theorem MSt.below (h : MSt w v ls wr) (hb : Below wr.heap.size wr w') : MSt w v ls w' := ⟨h.own.below hb, h.bel.trans (hb.mono h.bel.size)⟩
/-- What an append onto the matrix turns of other blocks: nothing. -/
def Others (wr w' : World) : Prop := ∀ g t cs, t ≠ 22 → Blk wr g t cs → Blk w' g t cs
end
theorem wpl_row {ops : Array Oper} {rest : List Oper} {o : Oper} {a : Act} {Q : Exit → Act → World → Prop} {w wr : World} {v : Value} {ls : List (List Nat)} (hg : o.guard = none) (s x : Operand)
    (ho : o.op = .call { callee := .builtin .append, args := #[s, x], argTypes := #[24, 24] }) (hst : MSt w v ls wr) (hl : ls.length ≤ 1000) (u : Value) (l : List Nat)
    (hu : wr.ownsRow w.heap.size 5 1 u l.length (l.map bv)) (hb : Byt l) (hs : a.eval s = v) {gx : Nat} (hgx : gx = wr.heap.size) (hx : a.eval x = .slice (some ⟨gx, 0, none⟩) 1 1)
    (h : ∀ v' w', Hid (MSt w v' (ls ++ [l]) w' ∧ Others wr w') → wpList Try.prog ops Q rest (a.put o.dst v') w') : wpList Try.prog ops Q (o :: rest) a (wr.alloc (.cells #[u] 22)) := by
  subst hgx
  obtain ⟨i, hi, h2, h3, h4⟩ := info_parts Try.info22
  obtain ⟨⟨vs, hown, hrows⟩, hbel⟩ := hst.alloc (.cells #[u] 22)
  have hu1 : u.oneCell' = true := by
    obtain ⟨A, c, rfl, _⟩ := own_slice hu
    rfl
  refine wpList_append_any _ hg s x 24 ho w.heap.size 22 i (.slice none 0 0) 1 24 Try.underlying24 hi h2 h3 h4 rfl (by decide) v ls.length vs hs hown (wr.heap.size + 1) (some ⟨wr.heap.size, 0, none⟩) 1 1 [u] hx
    (Reads.lit1 wr 22 u) (by intro y hy; rw [List.mem_singleton.1 hy]; exact hu1) (by unfold maxLen; omega) (by omega) hbel.size fun v' w' k1 k2 k3 => h v' w' (Lib.hid ⟨⟨⟨vs ++ [u], by rw [List.length_append]; exact k1, ?_⟩, ?_⟩, ?_⟩)
  · have hu' : (wr.alloc (.cells #[u] 22)).ownsRow w.heap.size 5 1 u l.length (l.map bv) := hu.alloc _
    exact (hrows.snoc hu' hb).kept k2 fun y _ hy => row_apart (t := 0) hy hown
  · exact bel_grown_own hbel hbel.size hown k2
  · intro g t cs hne hB
    refine (hB.alloc _).grown k2 fun e => ?_
    exact own_blk_ne hown (hB.alloc _) (fun e2 => hne e2.symm) e.symm
end Go.Proofs.Ytebpaafofombaaa
