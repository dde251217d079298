/-
  Words for the walk of Nodes: a map of whole numbers read as a function; what the loops keep.
-/
import Derived.Test.YtmdffmajnbokeaaPlW3
import Derived.Maps.Own
import Derived.Maps.OwnOps
import Derived.Maps.OwnSet
import Derived.Maps.Views
namespace Go.Proofs.Ytmdffmajnbokeaa
open Go.RowKit StrMath PlMath
set_option linter.unusedVariables false
def ik (k : Int) : Lit := .int .i64 k
/-- What a map of whole numbers holds. -/
def MapIs (D : DataW Unit) (f : Int → Option Int) : Prop :=
  Go.Maps.IsMap D ∧ ∀ k : Int, Go.Maps.has D (ik k) = (f k).isSome ∧ D.atKey (ik k) (.lit (.int .i64 0)) = .lit (.int .i64 ((f k).getD 0))
theorem ik_ne {a b : Int} (h : a ≠ b) : ik a ≠ ik b := fun e => h (by unfold ik at e; injection e)
theorem MapIs.empty : MapIs (.map []) (fun _ => none) := ⟨Go.Maps.isMap_empty, fun k => ⟨rfl, rfl⟩⟩
theorem MapIs.put {D : DataW Unit} {f : Int → Option Int} (h : MapIs D f) (k v : Int) : MapIs (D.put (ik k) (.lit (.int .i64 v))) (fun j => if j = k then some v else f j) := by
  refine ⟨h.1.put _ _, fun j => ?_⟩
  simp only []
  by_cases e : j = k
  · subst e
    rw [if_pos rfl, Go.Maps.has_put_same h.1 (by trivial), Go.Maps.atKey_put_same h.1 (by trivial)]
    exact ⟨rfl, rfl⟩
  · rw [if_neg e, Go.Maps.has_put_other (ik_ne e), Go.Maps.atKey_put_other (ik_ne e)]
    exact h.2 j
theorem MapIs.del {D : DataW Unit} {f : Int → Option Int} (h : MapIs D f) (k : Int) : MapIs (D.del (ik k)) (fun j => if j = k then none else f j) := by
  refine ⟨h.1.del _, fun j => ?_⟩
  simp only []
  by_cases e : j = k
  · subst e
    rw [if_pos rfl, Go.Maps.has_del_same, Go.Maps.atKey_del_same]
    exact ⟨rfl, rfl⟩
  · rw [if_neg e, Go.Maps.has_del_other (ik_ne e), Go.Maps.atKey_del_other (ik_ne e)]
    exact h.2 j
theorem MapIs.congr {D : DataW Unit} {f g : Int → Option Int} (h : MapIs D f) (e : ∀ k, f k = g k) : MapIs D g := ⟨h.1, fun k => by rw [← e k]; exact h.2 k⟩
/-- The first k members, put one behind the other. -/
def fillF (ms : List Mem) : Nat → Int → Option Int
  | 0, _ => none
  | k + 1, j => if j = (ms.getD k (0, 0)).1 then some (ms.getD k (0, 0)).2 else fillF ms k j
theorem fillF_get {ms : List Mem} (h : Up ms) (n : Nat) (hn : n ≤ ms.length) : ∀ k, k < n → fillF ms n (ms.getD k (0, 0)).1 = some (ms.getD k (0, 0)).2 := by
  induction n with
  | zero => intro k hk; omega
  | succ n ih =>
    intro k hk
    unfold fillF
    by_cases e : k = n
    · subst e; rw [if_pos rfl]
    · have hne : (ms.getD k (0, 0)).1 ≠ (ms.getD n (0, 0)).1 := by
        have := List.pairwise_iff_getElem.1 h.1 k n (by omega) (by omega) (by omega)
        rw [List.getD_eq_getElem?_getD, List.getD_eq_getElem?_getD, List.getElem?_eq_getElem (by omega), List.getElem?_eq_getElem (by omega)]
        simp only [Option.getD_some]
        omega
      rw [if_neg hne]
      exact ih (by omega) k (by omega)
def leftF (ms : List Mem) (n : Nat) (l : List Int) (j : Int) : Option Int := if l.contains j then none else fillF ms n j
/-- What Nodes keeps in its loops: its box, its map, what it has gathered. -/
structure Sta (w : World) (bx b N : Nat) (cs : Array Value) (f : Int → Option Int) (v : Value) (l : List Int) (wr : World) : Prop where
  bel : Below w.heap.size w wr
  mp : ∃ D : DataW Unit, wr.ownsMap Try.prog 3 (plainElem Try.prog 3) b N D ∧ MapIs D f
  row : wr.ownsRow w.heap.size 3 1 v l.length (l.map iv)
  box : Blk wr bx 25 cs
  h1 : w.heap.size ≤ bx
  h2 : w.heap.size ≤ b
  ne : bx ≠ b
section
variable {w wr : World} {bx b N : Nat} {cs : Array Value} {f : Int → Option Int} {v : Value} {l : List Int}
theorem Sta.alloc (h : Sta w bx b N cs f v l wr) (o : Obj) : Sta w bx b N cs f v l (wr.alloc o) := by
  obtain ⟨D, hm, hD⟩ := h.mp
  exact ⟨h.bel.alloc h.bel.size o, ⟨D, hm.alloc o, hD⟩, h.row.alloc o, h.box.alloc o, h.h1, h.h2, h.ne⟩
theorem Sta.congr {g : Int → Option Int} (h : Sta w bx b N cs f v l wr) (e : ∀ k, f k = g k) : Sta w bx b N cs g v l wr := by
  obtain ⟨D, hm, hD⟩ := h.mp
  exact ⟨h.bel, ⟨D, hm, hD.congr e⟩, h.row, h.box, h.h1, h.h2, h.ne⟩
theorem Sta.row_ne (h : Sta w bx b N cs f v l wr) : some b ≠ v.ownBlock := by
  obtain ⟨D, ⟨es, clock, hb, _⟩, _⟩ := h.mp
  rcases h.row.2 with ⟨rfl, _⟩ | ⟨g, cap, cur, rfl, _, hg, _⟩
  · simp [Value.ownBlock]
  · intro e
    have : b = g := by simpa [Value.ownBlock] using e
    subst this
    rw [hb] at hg
    injection hg with hg
    injection hg
theorem Sta.turned {wr' : World} {f' : Int → Option Int} {N' : Nat} (h : Sta w bx b N cs f v l wr) (hg : wr.grownBy wr' (some b)) (hm : ∃ D : DataW Unit, wr'.ownsMap Try.prog 3 (plainElem Try.prog 3) b N' D ∧ MapIs D f') : Sta w bx b N' cs f' v l wr' :=
  ⟨h.bel.grown hg h.bel.size (fun k hk => by injection hk with hk; rw [← hk]; exact h.h2), hm, h.row.kept hg (.inr fun e => h.row_ne e.symm), h.box.grown hg (fun e => h.ne (by injection e)), h.h1, h.h2, h.ne⟩
theorem Sta.appended {wr' : World} {v' : Value} {x : Int} (h : Sta w bx b N cs f v l wr) (hr : wr'.ownsRow w.heap.size 3 1 v' (l.length + 1) (l.map iv ++ [iv x])) (hg : wr.grownBy wr' v.ownBlock) : Sta w bx b N cs f v' (l ++ [x]) wr' := by
  obtain ⟨D, hm, hD⟩ := h.mp
  exact ⟨bel_grown_own h.bel h.bel.size h.row hg, ⟨D, hm.kept hg h.row_ne, hD⟩, by rw [List.length_append, List.map_append]; exact hr, h.box.grown hg (fun e => own_blk_ne h.row h.box (by decide) e.symm), h.h1, h.h2, h.ne⟩
end
theorem lawInt : Go.Maps.Keyed Try.prog 3 := Go.Maps.int_keyed Try.underlying3
theorem zeroInt (w : World) : (zeroValue 3).run Try.prog w = .ok (.int .i64 0) w := by kernel_rfl
theorem Try.infoI64 : (Try.prog.info? 3).map (fun i => (i.zero, i.size, i.bytes)) = some (some (.int .i64 0), 1, 8) := by kernel_rfl
/-- A straw's cost, of a member. -/
def cF (g : Nat) (r : Nat) (x : Mem) : Int := cost (hashN g r x.1.toNat) x.2
/-- What Nodes answers. -/
def nodesR (ms : List Mem) (g n : Int) : List Int × Int :=
  if chk ms = false then ([], 110) else if g < 0 ∨ 64 ≤ g ∨ n < 1 ∨ 255 < n then ([], 2) else if (wts ms : Int) < n then ([], 111) else (picks (cF g.toNat) ms n.toNat, 0)
/-- A fresh slice of whole numbers, and an error. -/
def RetI (r : List Int × Int) (w : World) (e : Ending) (w' : World) : Prop :=
  ∃ v, e = .returned (.tuple #[v, .int .i64 r.2]) ∧ w'.ownsRow w.heap.size 3 1 v r.1.length (r.1.map iv) ∧ Below w.heap.size w w'
theorem RetI.nil (er : Int) {w w' : World} (h : Below w.heap.size w w') : RetI ([], er) w (.returned (.tuple #[.slice none 0 0, .int .i64 er])) w' :=
  ⟨_, rfl, ⟨rfl, .inl ⟨rfl, rfl⟩⟩, h⟩
end Go.Proofs.Ytmdffmajnbokeaa
