/-
  THE PROGRAM'S READER: numbers with a sign, words, flags, texts. (printed by gen_par2.py)
-/
import Derived.Test.YthgiafjiemiifaaPaR1
namespace Go.Proofs.Ythgiafjiemiifaa
open Go.RowKit OctMath
set_option linter.unusedVariables false
set_option maxRecDepth 100000 in
set_option maxHeartbeats 1000000 in
theorem pg_int (g : Nat) (A : Option Addr) (n cap : Nat) (bs : List Nat) (p : Nat) (w : World) (hP : Hid (PG g A n cap bs p w)) :
    Calls Try.prog 57 #[.pointer (some ⟨g, 0, none⟩)] w (RetR (rInt bs p) vI64 g A n cap bs w) := by
  have c0 := hP.out.blk.cell 0
  have c1 := hP.out.blk.cell 1
  have HN := Lib.hid (int_any A cap n p bs w.drew hP.out.byt hP.out.len hP.out.drew.rd hP.out.le hP.out.mx)
  obtain ⟨h1, h2, h3⟩ := rdN_lt bs p hP.out.byt
  rw [hP.out.len] at h3
  have HR := Lib.hid (show rInt bs p = if (rdN bs p).2.2 = 0 then some (unz (rdN bs p).1, (rdN bs p).2.1.toNat) else none from by unfold rInt rNum; split <;> rfl)
  generalize rdN bs p = r at *
  obtain ⟨v, q, er⟩ := r
  simp only at HN HR h1 h2 h3
  obtain ⟨q, rfl⟩ := Int.eq_ofNat_of_zero_le h2
  by_cases he : er = 0
  · subst he
    rw [if_pos rfl] at HR
    have HT := Lib.hid (took_ok g q A n cap p w.drew (Lib.hid hP.out.blk))
    have HE := Lib.hid (hP.out.drew.put (q := q) (by omega))
    go_enter Try.func57, Try.ntmps57
    go_wp2
    go_region_held3 (fun w' => w'.cell? ⟨g, 0, none⟩ = some (.slice A n cap) ∧ w'.cell? ⟨g, 1, none⟩ = some (.int .i64 (p : Int))) (first | exact ⟨c0, c1⟩ | fail) (first
      | (go_at_call 87; refine HN.out.mono ?_; rintro e w1 ⟨rfl, hw⟩; rw [← hw]; clear hw))
    go_wp2_with (go_at_call 88; refine HT.out.mono ?_; rintro e w2 ⟨rfl, hw⟩; rw [hw]; clear hw)
    go_ret
    rw [HR.out]
    exact RetR.some_ ⟨rfl, unz_rng h1⟩ HE.out.1 (keep_drew.trans HE.out.2)
  · rw [if_neg he] at HR
    have HT := Lib.hid (took_bad g q er w.drew (by omega))
    go_enter Try.func57, Try.ntmps57
    go_wp2
    go_region_held3 (fun w' => w'.cell? ⟨g, 0, none⟩ = some (.slice A n cap) ∧ w'.cell? ⟨g, 1, none⟩ = some (.int .i64 (p : Int))) (first | exact ⟨c0, c1⟩ | fail) (first
      | (go_at_call 87; refine HN.out.mono ?_; rintro e w1 ⟨rfl, hw⟩; rw [← hw]; clear hw))
    go_wp2_with (go_at_call 88; refine HT.out.mono ?_; rintro e w2 ⟨rfl, hw⟩; rw [hw]; clear hw)
    refine ⟨rfl, ?_⟩
    rw [HR.out]
    exact RetR.none_ keep_drew
/-- What Flag answers. -/
def rdFl (bs : List Nat) (p : Nat) : Bool × Int × Nat := if p < bs.length then (if bs.getD p 0 ≤ 1 then (decide (0 < bs.getD p 0), (p : Int) + 1, 0) else (false, 0, 41)) else if p = bs.length then (false, 0, 40) else (false, 0, 2)
set_option maxRecDepth 100000 in
set_option maxHeartbeats 1000000 in
theorem flag_any (A : Option Addr) (cap n p : Nat) (bs : List Nat) (w : World) (hb : Byt bs) (hn : bs.length = n) (hr : Reads w w.heap.size 1 A n (bs.map bv)) (hm : n ≤ maxLen) :
    Calls Try.prog 95 #[.slice A n cap, .int .i64 (p : Int)] w fun e w' => e = .returned (.tuple #[.bool (rdFl bs p).1, .int .i64 (rdFl bs p).2.1, .int .i64 (rdFl bs p).2.2]) ∧ w = w' := by
  unfold maxLen at hm
  have HR := Lib.hid (show rdFl bs p = if p < bs.length then (if bs.getD p 0 ≤ 1 then (decide (0 < bs.getD p 0), (p : Int) + 1, 0) else (false, 0, 41)) else if p = bs.length then (false, 0, 40) else (false, 0, 2) from rfl)
  rw [hn] at HR
  generalize rdFl bs p = r at *
  rcases Nat.lt_trichotomy p n with h | h | h
  · rw [if_pos h] at HR
    have d1 : decide ((p : Int) < 0) = false := decide_eq_false (by omega)
    have d2 : decide ((p : Int) > (n : Int)) = false := decide_eq_false (by omega)
    have d3 : decide (n < p) = false := decide_eq_false (by omega)
    have d4 : ((p : Int) == (n : Int)) = false := by rw [beq_eq_false_iff_ne]; omega
    obtain ⟨ad, rfl, hbl, hc⟩ := hr.byteD h
    have p0 : (0 : Int) ≤ (p : Int) := by omega
    have p1 : (p : Int) < (n : Int) := by omega
    have pb : (p : Int) + 1 ≤ 9223372036854775807 := by omega
    obtain ⟨x, hx⟩ : ∃ x, bs.getD p 0 = x := ⟨_, rfl⟩
    rw [hx] at HR hc
    clear hx
    by_cases h1 : x ≤ 1
    · rw [if_pos h1] at HR
      have d5 : decide ((x : Int) > 1) = false := decide_eq_false (by omega)
      have d6 : decide (1 < x) = false := decide_eq_false (by omega)
      go_enter Try.func95, Try.ntmps95
      go_wp2
      go_ret3
      rw [HR.out]
      exact ⟨by simp, rfl⟩
    · rw [if_neg h1] at HR
      have d5 : decide ((x : Int) > 1) = true := decide_eq_true (by omega)
      have d6 : decide (1 < x) = true := decide_eq_true (by omega)
      go_enter Try.func95, Try.ntmps95
      go_wp2
      go_ret3
      rw [HR.out]
      exact ⟨rfl, rfl⟩
  · subst h
    rw [if_neg (by omega), if_pos rfl] at HR
    have d1 : decide ((p : Int) < 0) = false := decide_eq_false (by omega)
    have d2 : decide ((p : Int) > (p : Int)) = false := decide_eq_false (by omega)
    go_enter Try.func95, Try.ntmps95
    go_wp2
    go_ret3
    rw [HR.out]
    exact ⟨rfl, rfl⟩
  · rw [if_neg (by omega), if_neg (by omega)] at HR
    have d1 : decide ((p : Int) < 0) = false := decide_eq_false (by omega)
    have d2 : decide ((p : Int) > (n : Int)) = true := decide_eq_true (by omega)
    have d3 : decide (n < p) = true := decide_eq_true h
    go_enter Try.func95, Try.ntmps95
    go_wp2
    go_ret3
    rw [HR.out]
    exact ⟨rfl, rfl⟩
def vBool (x : Bool) (_ : World) (v : Value) : Prop := v = .bool x
set_option maxRecDepth 100000 in
set_option maxHeartbeats 1000000 in
theorem pg_flag (g : Nat) (A : Option Addr) (n cap : Nat) (bs : List Nat) (p : Nat) (w : World) (hP : Hid (PG g A n cap bs p w)) :
    Calls Try.prog 80 #[.pointer (some ⟨g, 0, none⟩)] w (RetR (rFlag bs p) vBool g A n cap bs w) := by
  have c0 := hP.out.blk.cell 0
  have c1 := hP.out.blk.cell 1
  have HN := Lib.hid (flag_any A cap n p bs w.drew hP.out.byt hP.out.len hP.out.drew.rd (Nat.le_trans hP.out.le hP.out.mx))
  obtain ⟨h2, h3⟩ : 0 ≤ (rdFl bs p).2.1 ∧ (rdFl bs p).2.1 ≤ (n : Int) := by
    have := hP.out.len
    unfold rdFl
    split
    · split <;> exact ⟨by dsimp only; omega, by dsimp only; omega⟩
    · split <;> exact ⟨by dsimp only; omega, by dsimp only; omega⟩
  have HR := Lib.hid (show rFlag bs p = if (rdFl bs p).2.2 = 0 then some ((rdFl bs p).1, (rdFl bs p).2.1.toNat) else none from by
    unfold rFlag rdFl
    by_cases c1 : p < bs.length
    · rw [if_pos c1]
      by_cases c2 : bs.getD p 0 ≤ 1
      · rw [if_pos ⟨c1, c2⟩, if_pos c2, if_pos rfl]; rfl
      · rw [if_neg (fun h => c2 h.2), if_neg c2, if_neg (by dsimp only; omega)]
    · rw [if_neg (fun h => c1 h.1), if_neg c1]
      split
      · rw [if_neg (by dsimp only; omega)]
      · rw [if_neg (by dsimp only; omega)])
  generalize rdFl bs p = r at *
  obtain ⟨v, q, er⟩ := r
  simp only at HN HR h2 h3
  obtain ⟨q, rfl⟩ := Int.eq_ofNat_of_zero_le h2
  by_cases he : er = 0
  · subst he
    rw [if_pos rfl] at HR
    have HT := Lib.hid (took_ok g q A n cap p w.drew (Lib.hid hP.out.blk))
    have HE := Lib.hid (hP.out.drew.put (q := q) (by omega))
    go_enter Try.func80, Try.ntmps80
    go_wp2
    go_region_held3 (fun w' => w'.cell? ⟨g, 0, none⟩ = some (.slice A n cap) ∧ w'.cell? ⟨g, 1, none⟩ = some (.int .i64 (p : Int))) (first | exact ⟨c0, c1⟩ | fail) (first
      | (go_at_call 95; refine HN.out.mono ?_; rintro e w1 ⟨rfl, hw⟩; rw [← hw]; clear hw))
    go_wp2_with (go_at_call 88; refine HT.out.mono ?_; rintro e w2 ⟨rfl, hw⟩; rw [hw]; clear hw)
    go_ret
    rw [HR.out]
    exact RetR.some_ rfl HE.out.1 (keep_drew.trans HE.out.2)
  · rw [if_neg he] at HR
    have HT := Lib.hid (took_bad g q er w.drew (by omega))
    go_enter Try.func80, Try.ntmps80
    go_wp2
    go_region_held3 (fun w' => w'.cell? ⟨g, 0, none⟩ = some (.slice A n cap) ∧ w'.cell? ⟨g, 1, none⟩ = some (.int .i64 (p : Int))) (first | exact ⟨c0, c1⟩ | fail) (first
      | (go_at_call 95; refine HN.out.mono ?_; rintro e w1 ⟨rfl, hw⟩; rw [← hw]; clear hw))
    go_wp2_with (go_at_call 88; refine HT.out.mono ?_; rintro e w2 ⟨rfl, hw⟩; rw [hw]; clear hw)
    refine ⟨rfl, ?_⟩
    rw [HR.out]
    exact RetR.none_ keep_drew
def vU32 (x : Nat) (_ : World) (v : Value) : Prop := v = .int .u32 (x : Int) ∧ x < 4294967296
set_option maxRecDepth 100000 in
set_option maxHeartbeats 1000000 in
theorem pg_word (g : Nat) (A : Option Addr) (n cap : Nat) (bs : List Nat) (p : Nat) (w : World) (hP : Hid (PG g A n cap bs p w)) :
    Calls Try.prog 58 #[.pointer (some ⟨g, 0, none⟩)] w (RetR (rWord bs p) vU32 g A n cap bs w) := by
  have HR := Lib.hid (show rWord bs p = match rNum bs p with | some (n, p) => if n < 4294967296 then some (n, p) else none | none => none from rfl)
  have HC := Lib.hid (pg_number g A n cap bs p w hP)
  cases hq : rNum bs p with
  | none =>
    rw [hq] at HR HC
    simp only at HR
    go_enter Try.func58, Try.ntmps58
    go_wp2_with (go_at_call 71; refine HC.out.mono ?_; rintro e w1 ⟨rfl, hk⟩; have HK := Lib.hid hk; clear hk)
    refine ⟨rfl, ?_⟩
    rw [HR.out]
    exact RetR.none_ HK.out
  | some x =>
    obtain ⟨x, q⟩ := x
    rw [hq] at HR HC
    simp only at HR
    by_cases h : x < 4294967296
    · rw [if_pos h] at HR
      have e1 : (x : Int) / 4294967296 = 0 := by omega
      have e2 : IntKind.u32.wrap (x : Int) = (x : Int) := by rw [IntKind.wrap_u32]; omega
      go_enter Try.func58, Try.ntmps58
      go_wp2_with (go_at_call 71; refine HC.out.mono ?_; rintro e w1 ⟨v, rfl, ⟨rfl, hx⟩, hp1, hk⟩; have HP1 := Lib.hid hp1; have HK := Lib.hid hk; clear hp1 hk)
      go_ret
      rw [HR.out]
      exact RetR.some_ ⟨rfl, h⟩ HP1.out HK.out
    · rw [if_neg h] at HR
      have e1 : decide ((x : Int) / 4294967296 > 0) = true := decide_eq_true (by omega)
      have e3 : decide (0 < (x : Int) / 4294967296) = true := decide_eq_true (by omega)
      go_enter Try.func58, Try.ntmps58
      go_wp2_with (go_at_call 71; refine HC.out.mono ?_; rintro e w1 ⟨v, rfl, ⟨rfl, hx⟩, hp1, hk⟩; have HK := Lib.hid hk; clear hp1 hk)
      refine ⟨rfl, ?_⟩
      rw [HR.out]
      exact RetR.none_ HK.out
end Go.Proofs.Ythgiafjiemiifaa
