/-
  THE PROGRAM'S READER: a page.
-/
import Derived.Test.YthgiafjiemiifaaPaMath
import Derived.Test.YthgiafjiemiifaaPenB
import Derived.Test.YthgiafjiemiifaaOctW6
import Derived.Deep.RegionHeld3
namespace Go.Proofs.Ythgiafjiemiifaa
open Go.RowKit OctMath
set_option linter.unusedVariables false
/-- The panic of bytes that are no such thing. -/
def badP : List PanicEntry := [{ v := .iface 115 (.agg #[]), recovered := false }]
set_option maxRecDepth 100000 in
theorem took_ok (g p : Nat) (A : Option Addr) (n cap a : Nat) (w : World) (hB : Hid (Blk w g 117 #[.slice A n cap, .int .i64 (a : Int)])) :
    Calls Try.prog 88 #[.pointer (some ⟨g, 0, none⟩), .int .i64 (p : Int), .int .i64 0] w fun e w' => e = .returned (.tuple #[]) ∧ w' = w.setCell ⟨g, 1, none⟩ (.int .i64 (p : Int)) := by
  have c1 := hB.out.cell 1
  have f1 := hB.out.frozen 1
  go_enter Try.func88, Try.ntmps88
  go_wp2
  go_end0
  exact ⟨rfl, rfl⟩
set_option maxRecDepth 100000 in
theorem took_bad (g : Nat) (p er : Int) (w : World) (he : er ≠ 0) :
    Calls Try.prog 88 #[.pointer (some ⟨g, 0, none⟩), .int .i64 p, .int .i64 er] w fun e w' => e = .panicked badP ∧ w' = w := by
  have h0 : (er != 0) = true := by rw [bne_iff_ne]; exact he
  go_enter Try.func88, Try.ntmps88
  go_wp2
  exact ⟨rfl, rfl, rfl⟩
/-- All blocks but g. -/
def Not (g : Nat) : Nat → Prop := fun k => k ≠ g
/-- A page: its bytes, and how far it was read. -/
structure PG (g : Nat) (A : Option Addr) (n cap : Nat) (bs : List Nat) (p : Nat) (w : World) : Prop where
  blk : Blk w g 117 #[.slice A n cap, .int .i64 (p : Int)]
  rd : Reads w w.heap.size 1 A n (bs.map bv)
  ne : 0 < n → ∀ ad, A = some ad → Not g ad.block
  byt : Byt bs
  len : bs.length = n
  le : n ≤ cap
  mx : cap ≤ maxLen
  reach : n ≤ 140737488351232
  pl : p ≤ n
theorem PG.turn {g : Nat} {A : Option Addr} {n cap p q : Nat} {bs : List Nat} {w w' : World} (h : PG g A n cap bs p w) (k : Keep (Not g) w w') (hB : Blk w' g 117 #[.slice A n cap, .int .i64 (q : Int)]) (hq : q ≤ n) : PG g A n cap bs q w' :=
  ⟨hB, k.reads h.rd h.ne, h.ne, h.byt, h.len, h.le, h.mx, h.reach, hq⟩
theorem PG.drew {g : Nat} {A : Option Addr} {n cap p : Nat} {bs : List Nat} {w : World} (h : PG g A n cap bs p w) : PG g A n cap bs p w.drew := ⟨h.blk, h.rd, h.ne, h.byt, h.len, h.le, h.mx, h.reach, h.pl⟩
theorem keep_drew {H : Nat → Prop} {w : World} : Keep H w w.drew := ⟨rfl, rfl, rfl, Nat.le_refl _, fun _ _ _ => rfl⟩
/-- What a reader of a page does. -/
def RetR {α : Type} (r : Option (α × Nat)) (val : α → World → Value → Prop) (g : Nat) (A : Option Addr) (n cap : Nat) (bs : List Nat) (w : World) (e : Ending) (w' : World) : Prop := match r with
  | some (x, q) => ∃ v, e = .returned v ∧ val x w' v ∧ PG g A n cap bs q w' ∧ Keep (Not g) w w'
  | none => e = .panicked badP ∧ Keep (Not g) w w'
theorem RetR.some_ {α : Type} {x : α} {q : Nat} {val : α → World → Value → Prop} {g : Nat} {A : Option Addr} {n cap : Nat} {bs : List Nat} {w w' : World} {v : Value} (h1 : val x w' v) (h2 : PG g A n cap bs q w') (h3 : Keep (Not g) w w') : RetR (some (x, q)) val g A n cap bs w (.returned v) w' := ⟨v, rfl, h1, h2, h3⟩
theorem RetR.none_ {α : Type} {val : α → World → Value → Prop} {g : Nat} {A : Option Addr} {n cap : Nat} {bs : List Nat} {w w' : World} (h3 : Keep (Not g) w w') : RetR (none : Option (α × Nat)) val g A n cap bs w (.panicked badP) w' := ⟨rfl, h3⟩
def vU64 (x : Nat) (_ : World) (v : Value) : Prop := v = .int .u64 (x : Int) ∧ x < 18446744073709551616
def vI64 (x : Int) (_ : World) (v : Value) : Prop := v = .int .i64 x ∧ -9223372036854775808 ≤ x ∧ x ≤ 9223372036854775807
theorem unz_rng {n : Nat} (h : n < 18446744073709551616) : -9223372036854775808 ≤ unz n ∧ unz n ≤ 9223372036854775807 := by unfold unz; split <;> omega
theorem PG.put {g : Nat} {A : Option Addr} {n cap p q : Nat} {bs : List Nat} {w : World} (h : PG g A n cap bs p w) (hq : q ≤ n) : PG g A n cap bs q (w.setCell ⟨g, 1, none⟩ (.int .i64 (q : Int))) ∧ Keep (Not g) w (w.setCell ⟨g, 1, none⟩ (.int .i64 (q : Int))) := by
  have k := Keep.set_ (Not g) w (g := g) 1 (.int .i64 (q : Int)) (fun h => h rfl)
  exact ⟨h.turn k (by have := h.blk.set_ 1 (.int .i64 (q : Int)); simpa using this) hq, k⟩
set_option maxRecDepth 100000 in
set_option maxHeartbeats 1000000 in
theorem pg_number (g : Nat) (A : Option Addr) (n cap : Nat) (bs : List Nat) (p : Nat) (w : World) (hP : Hid (PG g A n cap bs p w)) :
    Calls Try.prog 71 #[.pointer (some ⟨g, 0, none⟩)] w (RetR (rNum bs p) vU64 g A n cap bs w) := by
  have c0 := hP.out.blk.cell 0
  have c1 := hP.out.blk.cell 1
  have HN := Lib.hid (number_any A cap n p bs w.drew hP.out.byt hP.out.len hP.out.drew.rd hP.out.le hP.out.mx)
  obtain ⟨h1, h2, h3⟩ := rdN_lt bs p hP.out.byt
  rw [hP.out.len] at h3
  have HR := Lib.hid (show rNum bs p = if (rdN bs p).2.2 = 0 then some ((rdN bs p).1, (rdN bs p).2.1.toNat) else none from rfl)
  generalize rdN bs p = r at *
  obtain ⟨v, q, er⟩ := r
  simp only at HN HR h1 h2 h3
  obtain ⟨q, rfl⟩ := Int.eq_ofNat_of_zero_le h2
  by_cases he : er = 0
  · subst he
    rw [if_pos rfl] at HR
    have HT := Lib.hid (took_ok g q A n cap p w.drew (Lib.hid hP.out.blk))
    have HE := Lib.hid (hP.out.drew.put (q := q) (by omega))
    go_enter Try.func71, Try.ntmps71
    go_wp2
    go_region_held3 (fun w' => w'.cell? ⟨g, 0, none⟩ = some (.slice A n cap) ∧ w'.cell? ⟨g, 1, none⟩ = some (.int .i64 (p : Int))) (first | exact ⟨c0, c1⟩ | fail) (first
      | (go_at_call 91; refine HN.out.mono ?_; rintro e w1 ⟨rfl, hw⟩; rw [← hw]; clear hw))
    go_wp2_with (go_at_call 88; refine HT.out.mono ?_; rintro e w2 ⟨rfl, hw⟩; rw [hw]; clear hw)
    go_ret
    rw [HR.out]
    exact RetR.some_ ⟨rfl, h1⟩ HE.out.1 (keep_drew.trans HE.out.2)
  · rw [if_neg he] at HR
    have HT := Lib.hid (took_bad g q er w.drew (by omega))
    go_enter Try.func71, Try.ntmps71
    go_wp2
    go_region_held3 (fun w' => w'.cell? ⟨g, 0, none⟩ = some (.slice A n cap) ∧ w'.cell? ⟨g, 1, none⟩ = some (.int .i64 (p : Int))) (first | exact ⟨c0, c1⟩ | fail) (first
      | (go_at_call 91; refine HN.out.mono ?_; rintro e w1 ⟨rfl, hw⟩; rw [← hw]; clear hw))
    go_wp2_with (go_at_call 88; refine HT.out.mono ?_; rintro e w2 ⟨rfl, hw⟩; rw [hw]; clear hw)
    refine ⟨rfl, ?_⟩
    rw [HR.out]
    exact RetR.none_ keep_drew
end Go.Proofs.Ythgiafjiemiifaa
