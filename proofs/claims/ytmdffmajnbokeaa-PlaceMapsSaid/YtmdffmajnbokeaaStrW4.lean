/-
  The walks of the choice of a straw, the program's and the reference's.
-/
import Derived.Test.YtmdffmajnbokeaaStrW3
import Derived.Test.YtmdffmajnbokeaaLib2
namespace Go.Proofs.Ytmdffmajnbokeaa
open Go.RowKit StrMath
set_option linter.unusedVariables false
def iv (x : Int) : Value := .int .i64 x
def I64 (xs : List Int) : Prop := ∀ x ∈ xs, -9223372036854775808 ≤ x ∧ x ≤ 9223372036854775807
theorem I64.getD {xs : List Int} (h : I64 xs) (k : Nat) : -9223372036854775808 ≤ xs.getD k 0 ∧ xs.getD k 0 ≤ 9223372036854775807 := by
  rw [List.getD_eq_getElem?_getD]
  cases e : xs[k]? with
  | none => simp
  | some x => exact h x (List.mem_of_getElem? e)
theorem I64.wf {xs : List Int} (h : I64 xs) (k : Nat) : Lit.wf (.int .i64 (xs.getD k 0)) := by
  have := h.getD k
  generalize xs.getD k 0 = v at this
  simp only [Lit.wf, IntKind.min, IntKind.max, IntKind.signed, IntKind.bits]
  simp
  omega
theorem Ints.i64 {w : World} {A : Option Addr} {len cap : Nat} {zs : List Int} (h : Ints .i64 w A len cap zs) :
    I64 zs ∧ zs.length = len ∧ Reads w w.heap.size 1 A len (zs.map iv) ∧ len ≤ cap ∧ cap ≤ maxLen := by
  obtain ⟨hr, hw, hl, hc, hm⟩ := h
  refine ⟨fun z hz => by simpa [Lit.wf, IntKind.min, IntKind.max, IntKind.signed, IntKind.bits] using hw z hz, by simpa using hl, hr, hc, hm⟩
theorem Reads.intD {w : World} {B n : Nat} {A : Option Addr} {xs : List Int} (h : Reads w B 1 A n (xs.map iv)) {k : Nat} (hk : k < n) :
    ∃ ad, A = some ad ∧ ad.block < B ∧ w.cell? (ad.add k) = some (.int .i64 (xs.getD k 0)) := by
  have hn : xs.length = n := by simpa using h.1
  obtain ⟨ad, u, e, hb, hu, hc⟩ := h.at_ hk
  refine ⟨ad, e, hb, ?_⟩
  rw [hc, List.getD_eq_getElem?_getD, List.getElem?_eq_getElem (by omega)]
  rw [List.getElem?_map, List.getElem?_eq_getElem (by omega)] at hu
  exact hu.symm ▸ rfl
/-- A choice's straws: who draws, and at what cost. -/
def act (ws : List Int) (k : Nat) : Bool := decide (1 ≤ ws.getD k 0)
def cst (ids ws : List Int) (x r : Nat) (k : Nat) : Int := cost (hashN x r (ids.getD k 0 % 18446744073709551616).toNat) (ws.getD k 0)
def pick (ids ws : List Int) (x r : Nat) (k : Nat) : Int × Int := pk (act ws) (cst ids ws x r) k
theorem pick_zero (ids ws : List Int) (x r : Nat) : pick ids ws x r 0 = (-1, 9223372036854775807) := rfl
theorem pick_skip (ids ws : List Int) (x r k : Nat) (h : ws.getD k 0 < 1) : pick ids ws x r (k + 1) = pick ids ws x r k := by
  unfold pick; rw [pk, if_pos (by unfold act; exact decide_eq_false (by omega))]
theorem pick_take (ids ws : List Int) (x r k : Nat) (h : ¬ ws.getD k 0 < 1) (h2 : (pick ids ws x r k).1 < 0 ∨ cst ids ws x r k < (pick ids ws x r k).2) : pick ids ws x r (k + 1) = ((k : Int), cst ids ws x r k) := by
  unfold pick at *; rw [pk, if_neg (by unfold act; simp only [decide_eq_false_iff_not]; omega), if_pos h2]
theorem pick_stay (ids ws : List Int) (x r k : Nat) (h : ¬ ws.getD k 0 < 1) (h1 : ¬ (pick ids ws x r k).1 < 0) (h2 : ¬ cst ids ws x r k < (pick ids ws x r k).2) : pick ids ws x r (k + 1) = pick ids ws x r k := by
  unfold pick at *; rw [pk, if_neg (by unfold act; simp only [decide_eq_false_iff_not]; omega), if_neg (by omega)]
theorem quiet_add_left {P : Program} {f : FuncId} {args : Array Value} {w : World} {a n : Nat} {v : Value}
    (h : Calls P f args (w.drewN (a + n)) fun e w' => e = .returned v ∧ w.drewN (a + n) = w') :
    Calls P f args (w.drewN (a + n)) fun e w'' => e = .returned v ∧ ∃ m, w'' = w.drewN (a + m) :=
  h.mono fun _ _ ⟨he, hm⟩ => ⟨he, n, hm.symm⟩
theorem wrap_id (v : Int) : IntKind.u64.wrap v = (((v % 18446744073709551616).toNat : Nat) : Int) := by rw [IntKind.wrap_u64]; omega
end Go.Proofs.Ytmdffmajnbokeaa
