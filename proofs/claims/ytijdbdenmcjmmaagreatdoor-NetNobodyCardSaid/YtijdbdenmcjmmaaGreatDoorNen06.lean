/-
  THE REFERENCE'S WRITER: what it begins with, and what was written. (lines of PenW3 that serve every seat); THE PROGRAM'S READER: a page; THE PROGRAM'S READER: numbers with a sign, words, flags, texts. (printed by gen_par2.py); THE PROGRAM'S READER: texts; WORDS that several packages share: whole numbers and members as cells; THE PROGRAM'S READER: lists. (joined out of PenB, PaR1, PaR2, PaR3, Iv, PaR4 by shake.py)
-/
import Derived.Deep.RegionHeld3
import Derived.Test.YtijdbdenmcjmmaaGreatDoorNen05
import Derived.Test.YtijdbdenmcjmmaaGreatDoorNen04
import Derived.Test.YtijdbdenmcjmmaaGreatDoorNen03
import Derived.Test.YtijdbdenmcjmmaaGreatDoorNen01
section
namespace Go.Proofs.YtijdbdenmcjmmaaGreatDoor
open Go.RowKit OctMath
set_option linter.unusedVariables false
section
variable {P : Program} {l : List Oper} {md : Region.Mode} {Q : Exit → Act → World → Prop} {S0 S S0' S' : World → Prop} {s : Nat}
theorem wpAnyT_mono (h0 : ∀ w, S0' w → S0 w) (h1 : ∀ w, S' w → S w) : ∀ (fuel : Nat) (listed : Array Bool) (a : Act) (w : World), wpAnyT P md l Q S0' S' s fuel listed a w → wpAnyT P md l Q S0 S s fuel listed a w
  | 0, _, _, _, h => h
  | fuel + 1, _, _, _, h => ⟨h.1, fun i hi => wpOp_mono (fun a' w' h' => ⟨⟨h0 _ h'.1.1, fun q => h1 _ (h'.1.2 q)⟩, wpAnyT_mono h0 h1 fuel _ a' w' h'.2⟩) (h.2 i hi)⟩
end
def RetO (ys : List Nat) (w : World) (e : Ending) (w' : World) : Prop := ∃ A cap, e = .returned (.slice A ys.length cap) ∧ Reads w' w'.heap.size 1 A ys.length (ys.map bv) ∧ Below w.heap.size w w'
set_option maxRecDepth 100000 in
set_option maxHeartbeats 400000 in
theorem pen_writer (A : Option Addr) (n cap : Nat) (xs : List Nat) (w : World) (hr : Reads w w.heap.size 1 A n (xs.map bv)) (hm : n ≤ 140737488351232) :
    Calls Tryz.prog 39 #[.slice A n cap] w (fun e w' => ∃ g, e = .returned (.pointer (some ⟨g, 0, none⟩)) ∧ w.heap.size ≤ g ∧ Below w.heap.size w w' ∧ Pen (fun k => k < w.heap.size) g xs w') := by
  have hn : xs.length = n := by simpa using hr.1
  go_enter Tryz.func39, Tryz.ntmps39
  go_wp2_with (at_builtin
               refine wpl_append rfl (.tmp 3) (.tmp 4) _ rfl w w.heap.size 5 _ 1 1 Tryz.underlying33 Tryz.infoU8 rfl (by decide) (.slice (some ⟨w.heap.size, 0, none⟩) 0 0) 0 [] rfl ?own (w.heap.size + 1) A n cap (xs.map bv) rfl ?rd (bv_one xs) (by omega) (by decide) ?bel ?base ?_
               case own => exact World.ownsRow_lit _ #[] 0 (Nat.le_refl _) (by unfold maxLen; omega) rfl
               case rd => exact (hr.alloc (Nat.le_refl _) _).more (by simp)
               case bel => exact (Below.refl _ _).alloc (Nat.le_refl _) _
               case base => simp
               intro v1 w1 hh
               obtain ⟨PA, pn, pc, rfl⟩ : ∃ PA pn pc, v1 = .slice PA pn pc := (by obtain ⟨x, y, e, _⟩ := own_slice hh.out.1; exact ⟨_, _, _, e⟩))
  go_ret
  obtain ⟨h1, h2, h3⟩ := hh.out
  refine ⟨w1.heap.size, rfl, h3, h2.alloc h3 _, ⟨_, Blk.new _ _ _, ?_, fun e => by have := (h1.lt _ e).2; omega, fun k hk e => by have := (h1.lt _ e).1; omega⟩⟩
  have h := own_baseO h1 (Nat.zero_le _)
  rw [hn]
  simpa using h.alloc _
set_option maxRecDepth 100000 in
theorem pen_written (H : Nat → Prop) (g : Nat) (xs : List Nat) (w : World) (hp : Pen H g xs w) : Calls Tryz.prog 41 #[.pointer (some ⟨g, 0, none⟩)] w (fun e w' => (∃ A cap, e = .returned (.slice A xs.length cap) ∧ Reads w w.heap.size 1 A xs.length (xs.map bv)) ∧ w = w') := by
  obtain ⟨v, hB, hO, -, -⟩ := hp.out
  obtain ⟨A, cap, rfl, -, -⟩ := own_slice hO
  have z0 : w.cell? ⟨g, 0, none⟩ = some (.slice A xs.length cap) := hB.cell 0
  have HR := Lh (Reads.of_own hO)
  clear hB hO
  go_enter Tryz.func41, Tryz.ntmps41
  go_wp2
  go_ret
  exact ⟨⟨A, cap, rfl, HR.out⟩, rfl⟩
end Go.Proofs.YtijdbdenmcjmmaaGreatDoor
end
section
namespace Go.Proofs.YtijdbdenmcjmmaaGreatDoor
open Go.RowKit OctMath
set_option linter.unusedVariables false
def badP : List PanicEntry := [{ v := .iface 153 (.agg #[]), recovered := false }]
set_option maxRecDepth 100000 in
theorem took_ok (g p : Nat) (A : Option Addr) (n cap a : Nat) (w : World) (hB : Hid (Blk w g 155 #[.slice A n cap, .int .i64 (a : Int)])) :
    Calls Tryz.prog 98 #[.pointer (some ⟨g, 0, none⟩), .int .i64 (p : Int), .int .i64 0] w fun e w' => e = .returned (.tuple #[]) ∧ w' = w.setCell ⟨g, 1, none⟩ (.int .i64 (p : Int)) := by
  have c1 := hB.out.cell 1
  have f1 := hB.out.frozen 1
  go_enter Tryz.func98, Tryz.ntmps98
  go_wp2
  go_end0
  exact ⟨rfl, rfl⟩
set_option maxRecDepth 100000 in
theorem took_bad (g : Nat) (p er : Int) (w : World) (he : er ≠ 0) :
    Calls Tryz.prog 98 #[.pointer (some ⟨g, 0, none⟩), .int .i64 p, .int .i64 er] w fun e w' => e = .panicked badP ∧ w' = w := by
  have h0 : (er != 0) = true := by rw [bne_iff_ne]; exact he
  go_enter Tryz.func98, Tryz.ntmps98
  go_wp2
  exact ⟨rfl, rfl, rfl⟩
def Not (g : Nat) : Nat → Prop := fun k => k ≠ g
structure PG (g : Nat) (A : Option Addr) (n cap : Nat) (bs : List Nat) (p : Nat) (w : World) : Prop where
  blk : Blk w g 155 #[.slice A n cap, .int .i64 (p : Int)]
  rd : Reads w w.heap.size 1 A n (bs.map bv)
  ne : 0 < n → ∀ ad, A = some ad → Not g ad.block
  byt : Byt bs
  len : bs.length = n
  le : n ≤ cap
  mx : cap ≤ maxLen
  reach : n ≤ 140737488351232
  pl : p ≤ n
theorem PG.turn {g : Nat} {A : Option Addr} {n cap p q : Nat} {bs : List Nat} {w w' : World} (h : PG g A n cap bs p w) (k : Keep (Not g) w w') (hB : Blk w' g 155 #[.slice A n cap, .int .i64 (q : Int)]) (hq : q ≤ n) : PG g A n cap bs q w' :=
  ⟨hB, k.reads h.rd h.ne, h.ne, h.byt, h.len, h.le, h.mx, h.reach, hq⟩
theorem PG.drew {g : Nat} {A : Option Addr} {n cap p : Nat} {bs : List Nat} {w : World} (h : PG g A n cap bs p w) : PG g A n cap bs p w.drew := ⟨h.blk, h.rd, h.ne, h.byt, h.len, h.le, h.mx, h.reach, h.pl⟩
theorem keep_drew {H : Nat → Prop} {w : World} : Keep H w w.drew := ⟨rfl, rfl, rfl, Nat.le_refl _, fun _ _ _ => rfl⟩
def RetR {α : Type} (r : Option (α × Nat)) (val : α → World → Value → Prop) (g : Nat) (A : Option Addr) (n cap : Nat) (bs : List Nat) (w : World) (e : Ending) (w' : World) : Prop := match r with
  | some (x, q) => ∃ v, e = .returned v ∧ val x w' v ∧ PG g A n cap bs q w' ∧ Keep (Not g) w w'
  | none => e = .panicked badP ∧ Keep (Not g) w w'
theorem RetR.some_ {α : Type} {x : α} {q : Nat} {val : α → World → Value → Prop} {g : Nat} {A : Option Addr} {n cap : Nat} {bs : List Nat} {w w' : World} {v : Value} (h1 : val x w' v) (h2 : PG g A n cap bs q w') (h3 : Keep (Not g) w w') : RetR (some (x, q)) val g A n cap bs w (.returned v) w' := ⟨v, rfl, h1, h2, h3⟩
theorem RetR.none_ {α : Type} {val : α → World → Value → Prop} {g : Nat} {A : Option Addr} {n cap : Nat} {bs : List Nat} {w w' : World} (h3 : Keep (Not g) w w') : RetR (none : Option (α × Nat)) val g A n cap bs w (.panicked badP) w' := ⟨rfl, h3⟩
def vU64 (x : Nat) (_ : World) (v : Value) : Prop := v = .int .u64 (x : Int) ∧ x < 18446744073709551616
def vI64 (x : Int) (_ : World) (v : Value) : Prop := v = .int .i64 x ∧ -9223372036854775808 ≤ x ∧ x ≤ 9223372036854775807
theorem unz_rng {n : Nat} (h : n < 18446744073709551616) : -9223372036854775808 ≤ unz n ∧ unz n ≤ 9223372036854775807 := by unfold unz; split <;> omega
theorem PG.put {g : Nat} {A : Option Addr} {n cap p q : Nat} {bs : List Nat} {w : World} (h : PG g A n cap bs p w) (hq : q ≤ n) : PG g A n cap bs q (w.setCell ⟨g, 1, none⟩ (.int .i64 (q : Int))) ∧ Keep (Not g) w (w.setCell ⟨g, 1, none⟩ (.int .i64 (q : Int))) := by
  have k := Keep.set_ (Not g) w (g := g) 1 (.int .i64 (q : Int)) (fun h => h rfl)
  exact ⟨h.turn k (by have := h.blk.set_ 1 (.int .i64 (q : Int)); simpa using this) hq, k⟩
set_option maxRecDepth 100000 in
set_option maxHeartbeats 1000000 in
theorem pg_number (g : Nat) (A : Option Addr) (n cap : Nat) (bs : List Nat) (p : Nat) (w : World) (hP : Hid (PG g A n cap bs p w)) :
    Calls Tryz.prog 69 #[.pointer (some ⟨g, 0, none⟩)] w (RetR (rNum bs p) vU64 g A n cap bs w) := by
  have c0 := hP.out.blk.cell 0
  have c1 := hP.out.blk.cell 1
  have HN := Lh (number_any A cap n p bs w.drew hP.out.byt hP.out.len hP.out.drew.rd hP.out.le hP.out.mx)
  obtain ⟨h1, h2, h3⟩ := rdN_lt bs p hP.out.byt
  rw [hP.out.len] at h3
  have HR := Lh (show rNum bs p = if (rdN bs p).2.2 = 0 then some ((rdN bs p).1, (rdN bs p).2.1.toNat) else none from rfl)
  generalize rdN bs p = r at *
  obtain ⟨v, q, er⟩ := r
  simp only at HN HR h1 h2 h3
  obtain ⟨q, rfl⟩ := Int.eq_ofNat_of_zero_le h2
  by_cases he : er = 0
  · subst he
    rw [if_pos rfl] at HR
    have HT := Lh (took_ok g q A n cap p w.drew (Lh hP.out.blk))
    have HE := Lh (hP.out.drew.put (q := q) (by omega))
    go_enter Tryz.func69, Tryz.ntmps69
    go_wp2
    go_region_held3 (fun w' => w'.cell? ⟨g, 0, none⟩ = some (.slice A n cap) ∧ w'.cell? ⟨g, 1, none⟩ = some (.int .i64 (p : Int))) (first | exact ⟨c0, c1⟩ | fail) (first
      | (go_at_call 20; refine HN.out.mono ?_; rintro e w1 ⟨rfl, hw⟩; rw [← hw]; clear hw))
    go_wp2_with (go_at_call 98; refine HT.out.mono ?_; rintro e w2 ⟨rfl, hw⟩; rw [hw]; clear hw)
    go_ret
    rw [HR.out]
    exact RetR.some_ ⟨rfl, h1⟩ HE.out.1 (keep_drew.trans HE.out.2)
  · rw [if_neg he] at HR
    have HT := Lh (took_bad g q er w.drew (by omega))
    go_enter Tryz.func69, Tryz.ntmps69
    go_wp2
    go_region_held3 (fun w' => w'.cell? ⟨g, 0, none⟩ = some (.slice A n cap) ∧ w'.cell? ⟨g, 1, none⟩ = some (.int .i64 (p : Int))) (first | exact ⟨c0, c1⟩ | fail) (first
      | (go_at_call 20; refine HN.out.mono ?_; rintro e w1 ⟨rfl, hw⟩; rw [← hw]; clear hw))
    go_wp2_with (go_at_call 98; refine HT.out.mono ?_; rintro e w2 ⟨rfl, hw⟩; rw [hw]; clear hw)
    refine ⟨rfl, ?_⟩
    rw [HR.out]
    exact RetR.none_ keep_drew
end Go.Proofs.YtijdbdenmcjmmaaGreatDoor
end
section
namespace Go.Proofs.YtijdbdenmcjmmaaGreatDoor
open Go.RowKit OctMath
set_option linter.unusedVariables false
set_option maxRecDepth 100000 in
set_option maxHeartbeats 1000000 in
theorem pg_int (g : Nat) (A : Option Addr) (n cap : Nat) (bs : List Nat) (p : Nat) (w : World) (hP : Hid (PG g A n cap bs p w)) :
    Calls Tryz.prog 70 #[.pointer (some ⟨g, 0, none⟩)] w (RetR (rInt bs p) vI64 g A n cap bs w) := by
  have c0 := hP.out.blk.cell 0
  have c1 := hP.out.blk.cell 1
  have HN := Lh (int_any A cap n p bs w.drew hP.out.byt hP.out.len hP.out.drew.rd hP.out.le hP.out.mx)
  obtain ⟨h1, h2, h3⟩ := rdN_lt bs p hP.out.byt
  rw [hP.out.len] at h3
  have HR := Lh (show rInt bs p = if (rdN bs p).2.2 = 0 then some (unz (rdN bs p).1, (rdN bs p).2.1.toNat) else none from by unfold rInt rNum; split <;> rfl)
  generalize rdN bs p = r at *
  obtain ⟨v, q, er⟩ := r
  simp only at HN HR h1 h2 h3
  obtain ⟨q, rfl⟩ := Int.eq_ofNat_of_zero_le h2
  by_cases he : er = 0
  · subst he
    rw [if_pos rfl] at HR
    have HT := Lh (took_ok g q A n cap p w.drew (Lh hP.out.blk))
    have HE := Lh (hP.out.drew.put (q := q) (by omega))
    go_enter Tryz.func70, Tryz.ntmps70
    go_wp2
    go_region_held3 (fun w' => w'.cell? ⟨g, 0, none⟩ = some (.slice A n cap) ∧ w'.cell? ⟨g, 1, none⟩ = some (.int .i64 (p : Int))) (first | exact ⟨c0, c1⟩ | fail) (first
      | (go_at_call 18; refine HN.out.mono ?_; rintro e w1 ⟨rfl, hw⟩; rw [← hw]; clear hw))
    go_wp2_with (go_at_call 98; refine HT.out.mono ?_; rintro e w2 ⟨rfl, hw⟩; rw [hw]; clear hw)
    go_ret
    rw [HR.out]
    exact RetR.some_ ⟨rfl, unz_rng h1⟩ HE.out.1 (keep_drew.trans HE.out.2)
  · rw [if_neg he] at HR
    have HT := Lh (took_bad g q er w.drew (by omega))
    go_enter Tryz.func70, Tryz.ntmps70
    go_wp2
    go_region_held3 (fun w' => w'.cell? ⟨g, 0, none⟩ = some (.slice A n cap) ∧ w'.cell? ⟨g, 1, none⟩ = some (.int .i64 (p : Int))) (first | exact ⟨c0, c1⟩ | fail) (first
      | (go_at_call 18; refine HN.out.mono ?_; rintro e w1 ⟨rfl, hw⟩; rw [← hw]; clear hw))
    go_wp2_with (go_at_call 98; refine HT.out.mono ?_; rintro e w2 ⟨rfl, hw⟩; rw [hw]; clear hw)
    refine ⟨rfl, ?_⟩
    rw [HR.out]
    exact RetR.none_ keep_drew
def rdFl (bs : List Nat) (p : Nat) : Bool × Int × Nat := if p < bs.length then (if bs.getD p 0 ≤ 1 then (decide (0 < bs.getD p 0), (p : Int) + 1, 0) else (false, 0, 41)) else if p = bs.length then (false, 0, 40) else (false, 0, 2)
set_option maxRecDepth 100000 in
set_option maxHeartbeats 1000000 in
theorem flag_any (A : Option Addr) (cap n p : Nat) (bs : List Nat) (w : World) (hb : Byt bs) (hn : bs.length = n) (hr : Reads w w.heap.size 1 A n (bs.map bv)) (hm : n ≤ maxLen) :
    Calls Tryz.prog 22 #[.slice A n cap, .int .i64 (p : Int)] w fun e w' => e = .returned (.tuple #[.bool (rdFl bs p).1, .int .i64 (rdFl bs p).2.1, .int .i64 (rdFl bs p).2.2]) ∧ w = w' := by
  unfold maxLen at hm
  have HR := Lh (show rdFl bs p = if p < bs.length then (if bs.getD p 0 ≤ 1 then (decide (0 < bs.getD p 0), (p : Int) + 1, 0) else (false, 0, 41)) else if p = bs.length then (false, 0, 40) else (false, 0, 2) from rfl)
  rw [hn] at HR
  generalize rdFl bs p = r at *
  rcases Nat.lt_trichotomy p n with h | h | h
  · rw [if_pos h] at HR
    have d1 : decide ((p : Int) < 0) = false := decide_eq_false (by omega)
    have d2 : decide ((p : Int) > (n : Int)) = false := decide_eq_false (by omega)
    have d3 : decide (n < p) = false := decide_eq_false (by omega)
    have d4 : ((p : Int) == (n : Int)) = false := by rw [beq_eq_false_iff_ne]; omega
    obtain ⟨ad, rfl, hbl, hc⟩ := hr.byteD h
    have p0 : (0 : Int) ≤ (p : Int) := by omega
    have p1 : (p : Int) < (n : Int) := by omega
    have pb : (p : Int) + 1 ≤ 9223372036854775807 := by omega
    obtain ⟨x, hx⟩ : ∃ x, bs.getD p 0 = x := ⟨_, rfl⟩
    rw [hx] at HR hc
    clear hx
    by_cases h1 : x ≤ 1
    · rw [if_pos h1] at HR
      have d5 : decide ((x : Int) > 1) = false := decide_eq_false (by omega)
      have d6 : decide (1 < x) = false := decide_eq_false (by omega)
      go_enter Tryz.func22, Tryz.ntmps22
      go_wp2
      go_ret3
      rw [HR.out]
      exact ⟨by simp, rfl⟩
    · rw [if_neg h1] at HR
      have d5 : decide ((x : Int) > 1) = true := decide_eq_true (by omega)
      have d6 : decide (1 < x) = true := decide_eq_true (by omega)
      go_enter Tryz.func22, Tryz.ntmps22
      go_wp2
      go_ret3
      rw [HR.out]
      exact ⟨rfl, rfl⟩
  · subst h
    rw [if_neg (by omega), if_pos rfl] at HR
    have d1 : decide ((p : Int) < 0) = false := decide_eq_false (by omega)
    have d2 : decide ((p : Int) > (p : Int)) = false := decide_eq_false (by omega)
    go_enter Tryz.func22, Tryz.ntmps22
    go_wp2
    go_ret3
    rw [HR.out]
    exact ⟨rfl, rfl⟩
  · rw [if_neg (by omega), if_neg (by omega)] at HR
    have d1 : decide ((p : Int) < 0) = false := decide_eq_false (by omega)
    have d2 : decide ((p : Int) > (n : Int)) = true := decide_eq_true (by omega)
    have d3 : decide (n < p) = true := decide_eq_true h
    go_enter Tryz.func22, Tryz.ntmps22
    go_wp2
    go_ret3
    rw [HR.out]
    exact ⟨rfl, rfl⟩
def vBool (x : Bool) (_ : World) (v : Value) : Prop := v = .bool x
set_option maxRecDepth 100000 in
set_option maxHeartbeats 1000000 in
theorem pg_flag (g : Nat) (A : Option Addr) (n cap : Nat) (bs : List Nat) (p : Nat) (w : World) (hP : Hid (PG g A n cap bs p w)) :
    Calls Tryz.prog 100 #[.pointer (some ⟨g, 0, none⟩)] w (RetR (rFlag bs p) vBool g A n cap bs w) := by
  have c0 := hP.out.blk.cell 0
  have c1 := hP.out.blk.cell 1
  have HN := Lh (flag_any A cap n p bs w.drew hP.out.byt hP.out.len hP.out.drew.rd (Nat.le_trans hP.out.le hP.out.mx))
  obtain ⟨h2, h3⟩ : 0 ≤ (rdFl bs p).2.1 ∧ (rdFl bs p).2.1 ≤ (n : Int) := by
    have := hP.out.len
    unfold rdFl
    split
    · split <;> exact ⟨by dsimp only; omega, by dsimp only; omega⟩
    · split <;> exact ⟨by dsimp only; omega, by dsimp only; omega⟩
  have HR := Lh (show rFlag bs p = if (rdFl bs p).2.2 = 0 then some ((rdFl bs p).1, (rdFl bs p).2.1.toNat) else none from by
    unfold rFlag rdFl
    by_cases c1 : p < bs.length
    · rw [if_pos c1]
      by_cases c2 : bs.getD p 0 ≤ 1
      · rw [if_pos ⟨c1, c2⟩, if_pos c2, if_pos rfl]; rfl
      · rw [if_neg (fun h => c2 h.2), if_neg c2, if_neg (by dsimp only; omega)]
    · rw [if_neg (fun h => c1 h.1), if_neg c1]
      split
      · rw [if_neg (by dsimp only; omega)]
      · rw [if_neg (by dsimp only; omega)])
  generalize rdFl bs p = r at *
  obtain ⟨v, q, er⟩ := r
  simp only at HN HR h2 h3
  obtain ⟨q, rfl⟩ := Int.eq_ofNat_of_zero_le h2
  by_cases he : er = 0
  · subst he
    rw [if_pos rfl] at HR
    have HT := Lh (took_ok g q A n cap p w.drew (Lh hP.out.blk))
    have HE := Lh (hP.out.drew.put (q := q) (by omega))
    go_enter Tryz.func100, Tryz.ntmps100
    go_wp2
    go_region_held3 (fun w' => w'.cell? ⟨g, 0, none⟩ = some (.slice A n cap) ∧ w'.cell? ⟨g, 1, none⟩ = some (.int .i64 (p : Int))) (first | exact ⟨c0, c1⟩ | fail) (first
      | (go_at_call 22; refine HN.out.mono ?_; rintro e w1 ⟨rfl, hw⟩; rw [← hw]; clear hw))
    go_wp2_with (go_at_call 98; refine HT.out.mono ?_; rintro e w2 ⟨rfl, hw⟩; rw [hw]; clear hw)
    go_ret
    rw [HR.out]
    exact RetR.some_ rfl HE.out.1 (keep_drew.trans HE.out.2)
  · rw [if_neg he] at HR
    have HT := Lh (took_bad g q er w.drew (by omega))
    go_enter Tryz.func100, Tryz.ntmps100
    go_wp2
    go_region_held3 (fun w' => w'.cell? ⟨g, 0, none⟩ = some (.slice A n cap) ∧ w'.cell? ⟨g, 1, none⟩ = some (.int .i64 (p : Int))) (first | exact ⟨c0, c1⟩ | fail) (first
      | (go_at_call 22; refine HN.out.mono ?_; rintro e w1 ⟨rfl, hw⟩; rw [← hw]; clear hw))
    go_wp2_with (go_at_call 98; refine HT.out.mono ?_; rintro e w2 ⟨rfl, hw⟩; rw [hw]; clear hw)
    refine ⟨rfl, ?_⟩
    rw [HR.out]
    exact RetR.none_ keep_drew
def vU32 (x : Nat) (_ : World) (v : Value) : Prop := v = .int .u32 (x : Int) ∧ x < 4294967296
set_option maxRecDepth 100000 in
set_option maxHeartbeats 1000000 in
theorem pg_word (g : Nat) (A : Option Addr) (n cap : Nat) (bs : List Nat) (p : Nat) (w : World) (hP : Hid (PG g A n cap bs p w)) :
    Calls Tryz.prog 76 #[.pointer (some ⟨g, 0, none⟩)] w (RetR (rWord bs p) vU32 g A n cap bs w) := by
  have HR := Lh (show rWord bs p = match rNum bs p with | some (n, p) => if n < 4294967296 then some (n, p) else none | none => none from rfl)
  have HC := Lh (pg_number g A n cap bs p w hP)
  cases hq : rNum bs p with
  | none =>
    rw [hq] at HR HC
    simp only at HR
    go_enter Tryz.func76, Tryz.ntmps76
    go_wp2_with (go_at_call 69; refine HC.out.mono ?_; rintro e w1 ⟨rfl, hk⟩; have HK := Lh hk; clear hk)
    refine ⟨rfl, ?_⟩
    rw [HR.out]
    exact RetR.none_ HK.out
  | some x =>
    obtain ⟨x, q⟩ := x
    rw [hq] at HR HC
    simp only at HR
    by_cases h : x < 4294967296
    · rw [if_pos h] at HR
      have e1 : (x : Int) / 4294967296 = 0 := by omega
      have e2 : IntKind.u32.wrap (x : Int) = (x : Int) := by rw [IntKind.wrap_u32]; omega
      go_enter Tryz.func76, Tryz.ntmps76
      go_wp2_with (go_at_call 69; refine HC.out.mono ?_; rintro e w1 ⟨v, rfl, ⟨rfl, hx⟩, hp1, hk⟩; have HP1 := Lh hp1; have HK := Lh hk; clear hp1 hk)
      go_ret
      rw [HR.out]
      exact RetR.some_ ⟨rfl, h⟩ HP1.out HK.out
    · rw [if_neg h] at HR
      have e1 : decide ((x : Int) / 4294967296 > 0) = true := decide_eq_true (by omega)
      have e3 : decide (0 < (x : Int) / 4294967296) = true := decide_eq_true (by omega)
      go_enter Tryz.func76, Tryz.ntmps76
      go_wp2_with (go_at_call 69; refine HC.out.mono ?_; rintro e w1 ⟨v, rfl, ⟨rfl, hx⟩, hp1, hk⟩; have HK := Lh hk; clear hp1 hk)
      refine ⟨rfl, ?_⟩
      rw [HR.out]
      exact RetR.none_ HK.out
end Go.Proofs.YtijdbdenmcjmmaaGreatDoor
end
section
namespace Go.Proofs.YtijdbdenmcjmmaaGreatDoor
open Go.RowKit OctMath
set_option linter.unusedVariables false
def vText (xs : List Nat) (_ : World) (v : Value) : Prop := v = .string (strOf xs) ∧ Byt xs ∧ xs.length ≤ 1048576
theorem PG.below {g : Nat} {A : Option Addr} {n cap p : Nat} {bs : List Nat} {w w' : World} (h : PG g A n cap bs p w) (k : Below w.heap.size w w') : PG g A n cap bs p w' :=
  h.turn (Keep.below k) ((Keep.below (H := fun _ => True) k).blk h.blk trivial) h.pl
theorem rdB_rng (bs : List Nat) (p : Nat) (M : Nat) (hb : Byt bs) (he : (rdB bs p M).2.2 = 0) : 0 ≤ (rdB bs p M).2.1 ∧ (rdB bs p M).2.1 ≤ (bs.length : Int) ∧ Byt (rdB bs p M).1 ∧ (rdB bs p M).1.length ≤ M := by
  obtain ⟨k, e1, e2, e3, e4⟩ := rdB_one bs p M hb he
  have h4 : (rdB bs p M).1.length ≤ M := by
    have hd : rdB bs p M = (if (rdN bs p).2.2 ≠ 0 then ([], 0, (rdN bs p).2.2)
      else if (M : Int) < 0 ∨ (M : Int) < (rdN bs p).1 ∨ (bs.length : Int) - (rdN bs p).2.1 < (rdN bs p).1 then ([], 0, 40)
      else ((bs.drop (rdN bs p).2.1.toNat).take (rdN bs p).1, (rdN bs p).2.1 + (rdN bs p).1, 0)) := rfl
    rw [hd]
    split
    · simp
    · split
      · simp
      · rename_i h
        rw [List.length_take]
        omega
  refine ⟨by omega, by omega, ?_, h4⟩
  intro x hx
  have : x ∈ (bs.drop k).take (putN (rdB bs p M).1.length ++ (rdB bs p M).1).length := by rw [e4]; exact List.mem_append_right _ hx
  exact hb x (List.mem_of_mem_drop (List.mem_of_mem_take this))
theorem PG.apart {g : Nat} {A : Option Addr} {n cap p : Nat} {bs : List Nat} {w : World} (h : PG g A n cap bs p w) {B m : Nat} {A1 : Option Addr} {xs : List Nat} (hr : Reads w B 1 A1 m (xs.map bv)) : 0 < m → ∀ ad, A1 = some ad → Not g ad.block := by
  intro hm ad ha hg
  obtain ⟨ad', u, e1, hB, h2, h3⟩ := hr.at_ hm
  rw [ha] at e1
  injection e1 with e1
  rw [← e1] at h3
  rw [show ad.add 0 = ad from rfl] at h3
  rw [List.getElem?_map] at h2
  obtain ⟨x, -, rfl⟩ := Option.map_eq_some_iff.1 h2
  have hb : w.heap[ad.block]? = some (.cells #[.slice A n cap, .int .i64 (p : Int)] 155) := by rw [hg]; exact h.blk
  unfold World.cell? at h3
  rw [hb] at h3
  simp only at h3
  split at h3
  · cases h3
  · match ho : ad.off, h3 with
    | 0, h3 => simp [bv] at h3
    | 1, h3 => simp [bv] at h3
    | k + 2, h3 => simp at h3
set_option maxRecDepth 100000 in
set_option maxHeartbeats 1000000 in
theorem pg_text (g : Nat) (A : Option Addr) (n cap : Nat) (bs : List Nat) (p : Nat) (w : World) (hP : Hid (PG g A n cap bs p w)) :
    Calls Tryz.prog 99 #[.pointer (some ⟨g, 0, none⟩)] w (RetR (rText bs p) vText g A n cap bs w) := by
  have c0 := hP.out.blk.cell 0
  have c1 := hP.out.blk.cell 1
  have HN := Lh (bytes_any A cap n p 1048576 bs w.drew hP.out.byt hP.out.len hP.out.drew.rd hP.out.le hP.out.mx hP.out.reach (by omega))
  have HR := Lh (show rText bs p = if (rdB bs p 1048576).2.2 = 0 then some ((rdB bs p 1048576).1, (rdB bs p 1048576).2.1.toNat) else none from rfl)
  have HG := Lh (rdB_rng bs p 1048576 hP.out.byt)
  rw [hP.out.len] at HG
  generalize rdB bs p 1048576 = r at *
  obtain ⟨v, q, er⟩ := r
  simp only at HR HG
  by_cases he : er = 0
  · subst he
    obtain ⟨g1, g2, g3, g4⟩ := HG.out rfl
    obtain ⟨q, rfl⟩ := Int.eq_ofNat_of_zero_le g1
    have HQ := Lh (show q ≤ n by omega)
    have HV := Lh (And.intro g3 g4)
    clear g1 g2 g3 g4
    rw [if_pos rfl] at HR
    go_enter Tryz.func99, Tryz.ntmps99
    go_wp2
    go_region_held3 (fun w' => w'.cell? ⟨g, 0, none⟩ = some (.slice A n cap) ∧ w'.cell? ⟨g, 1, none⟩ = some (.int .i64 (p : Int))) (first | exact ⟨c0, c1⟩ | exact ⟨d0, d1⟩ | fail) (first
      | (go_at_call 50; refine HN.out.mono ?_; rintro e w1 ⟨A1, n1, cap1, rfl, r1, -, -, hb⟩; have HP1 := Lh (hP.out.drew.below hb); have d0 := HP1.out.blk.cell 0; have d1 := HP1.out.blk.cell 1; have HK1 := Lh (keep_drew.trans (Keep.below (H := Not g) hb) : Keep (Not g) w w1); have R1 := Lh r1; clear r1 hb))
    have HR1 := Lh (HP1.out.apart R1.out)
    go_wp2_with (go_at_call 98; refine (took_ok g q A n cap p _ (Lh HP1.out.blk)).mono ?_; rintro e w2 ⟨rfl, hw⟩; obtain ⟨hp2, hk2⟩ := HP1.out.put (q := q) HQ.out; rw [← hw] at hp2 hk2; have HP2 := Lh hp2; have HK2 := Lh hk2; have kc := run_conv_bytes (P := Tryz.prog) (src := 33) (dst := 9) (cap := cap1) Tryz.underlying33 Tryz.underlying5 Tryz.underlying9 (hk2.reads R1.out HR1.out); clear hp2 hk2 hw)
    go_ret
    rw [HR.out]
    exact RetR.some_ ⟨rfl, HV.out⟩ HP2.out (HK1.out.trans HK2.out)
  · rw [if_neg he] at HR
    clear HG
    have he' := Lh (show (er : Int) ≠ 0 by omega)
    go_enter Tryz.func99, Tryz.ntmps99
    go_wp2
    go_region_held3 (fun w' => w'.cell? ⟨g, 0, none⟩ = some (.slice A n cap) ∧ w'.cell? ⟨g, 1, none⟩ = some (.int .i64 (p : Int))) (first | exact ⟨c0, c1⟩ | exact ⟨d0, d1⟩ | fail) (first
      | (go_at_call 50; refine HN.out.mono ?_; rintro e w1 ⟨A1, n1, cap1, rfl, r1, -, -, hb⟩; have HP1 := Lh (hP.out.drew.below hb); have d0 := HP1.out.blk.cell 0; have d1 := HP1.out.blk.cell 1; have HK1 := Lh (keep_drew.trans (Keep.below (H := Not g) hb) : Keep (Not g) w w1); have R1 := Lh r1; clear r1 hb))
    go_wp2_with (go_at_call 98; refine (took_bad g q er _ he'.out).mono ?_; rintro e w2 ⟨rfl, hw⟩; rw [hw]; clear hw)
    refine ⟨rfl, ?_⟩
    rw [HR.out]
    exact RetR.none_ HK1.out
end Go.Proofs.YtijdbdenmcjmmaaGreatDoor
end
section
namespace Go.Proofs.YtijdbdenmcjmmaaGreatDoor
open Go.RowKit
set_option linter.unusedVariables false
def iv (x : Int) : Value := .int .i64 x
theorem Tryz.infoI64 : (Tryz.prog.info? 3).map (fun i => (i.zero, i.size, i.bytes)) = some (some (.int .i64 0), 1, 8) := by kernel_rfl
def mcells (ms : List (Int × Int)) : List Value := ms.flatMap fun p => [iv p.1, iv p.2]
theorem mcells_len (ms : List (Int × Int)) : (mcells ms).length = ms.length * 2 := by
  induction ms with
  | nil => rfl
  | cons p l ih => show (iv p.1 :: iv p.2 :: mcells l).length = _; simp only [List.length_cons]; omega
end Go.Proofs.YtijdbdenmcjmmaaGreatDoor
end
section
namespace Go.Proofs.YtijdbdenmcjmmaaGreatDoor
open Go.RowKit OctMath
set_option linter.unusedVariables false
theorem rTimes_none {α : Type} {one : Rd α} {p k : Nat} (h : rTimes one k p = none) {m : Nat} (hm : k ≤ m) : rTimes one m p = none := by
  induction m with
  | zero => obtain rfl : k = 0 := by omega
            exact h
  | succ m ih =>
    by_cases e : k = m + 1
    · rw [← e]; exact h
    · show (rTimes one m).bind _ p = none
      exact Rd.bind_none (ih (by omega))
theorem rTimes_more {α : Type} {one : Rd α} {p k q q' : Nat} {l : List α} {x : α} (h : rTimes one k p = some (l, q)) (hx : one q = some (x, q')) : rTimes one (k + 1) p = some (l ++ [x], q') := by
  show (rTimes one k).bind _ p = _
  rw [Rd.bind_some h, Rd.bind_some hx]; rfl
theorem rTimes_end {α : Type} {one : Rd α} {p k q : Nat} {l : List α} (h : rTimes one k p = some (l, q)) (hx : one q = none) : rTimes one (k + 1) p = none := by
  show (rTimes one k).bind _ p = _
  rw [Rd.bind_some h, Rd.bind_none hx]
theorem rTimes_len {α : Type} {one : Rd α} {p k : Nat} : ∀ {q : Nat} {l : List α}, rTimes one k p = some (l, q) → l.length = k := by
  induction k with
  | zero => intro q l h; cases h; rfl
  | succ k ih =>
    intro q l h
    have h' : (rTimes one k).bind (fun l => one.bind fun x => Rd.pure (l ++ [x])) p = some (l, q) := h
    cases h1 : rTimes one k p with
    | none => rw [Rd.bind_none h1] at h'; cases h'
    | some v =>
      obtain ⟨l1, q1⟩ := v
      rw [Rd.bind_some h1] at h'
      cases h2 : one q1 with
      | none => rw [Rd.bind_none h2] at h'; cases h'
      | some v =>
        obtain ⟨x, q2⟩ := v
        rw [Rd.bind_some h2] at h'
        cases h'
        rw [List.length_append, ih h1]; rfl
structure LiR (g : Nat) (A : Option Addr) (n cap : Nat) (bs : List Nat) (w1 : World) (t : TypeId) (size : Nat) (v : Value) (k : Nat) (xs : List Value) (q : Nat) (wr : World) : Prop where
  own : wr.ownsRow w1.heap.size t size v k xs
  pg : PG g A n cap bs q wr
  kp : Keep (Not g) w1 wr
theorem LiR.start {g : Nat} {A : Option Addr} {n cap : Nat} {bs : List Nat} {w1 : World} {q : Nat} (t : TypeId) (size : Nat) (h : PG g A n cap bs q w1) : LiR g A n cap bs w1 t size (.slice none 0 0) 0 [] q w1 := ⟨⟨by simp, .inl ⟨rfl, rfl⟩⟩, h, Keep.refl _ _⟩
theorem own_apart {w : World} {base size k : Nat} {t : TypeId} {v : Value} {xs : List Value} (h : w.ownsRow base t size v k xs) {g : Nat} (hg : g < base) : v.ownBlock ≠ some g := by
  rcases h.2 with ⟨rfl, -⟩ | ⟨b, c, cur, rfl, hb, -⟩
  · simp [Value.ownBlock]
  · simp only [Value.ownBlock]
    intro e
    injection e with e
    omega
theorem LiR.read {g : Nat} {A : Option Addr} {n cap : Nat} {bs : List Nat} {w1 wr w2 : World} {t : TypeId} {size : Nat} {v : Value} {k : Nat} {xs : List Value} {q q' : Nat} (h : LiR g A n cap bs w1 t size v k xs q wr) (hg : g < w1.heap.size) (hp : PG g A n cap bs q' w2) (hk : Keep (Not g) wr w2) : LiR g A n cap bs w1 t size v k xs q' w2 :=
  ⟨h.own.kept (row := some g) ⟨hk.os, hk.tape, hk.output, hk.size, fun b hb hne => hk.block b (fun e => hne (by rw [e])) hb⟩ (.inr (own_apart h.own hg)), hp, h.kp.trans hk⟩
theorem LiR.grow {g : Nat} {A : Option Addr} {n cap : Nat} {bs : List Nat} {w1 wr w2 : World} {t : TypeId} {size : Nat} {v v' : Value} {k k' : Nat} {xs xs' : List Value} {q q1 : Nat} (h : LiR g A n cap bs w1 t size v k xs q wr) (hp1 : PG g A n cap bs q1 w1) (ho : w2.ownsRow w1.heap.size t size v' k' xs') (hb : Below w1.heap.size wr w2) : LiR g A n cap bs w1 t size v' k' xs' q w2 := by
  have hk : Keep (Not g) w1 w2 := ⟨hb.os.trans h.kp.os, hb.tape.trans h.kp.tape, hb.output.trans h.kp.output, Nat.le_trans h.kp.size hb.size, fun b hne hl => (hb.block b hl).trans (h.kp.block b hne hl)⟩
  refine ⟨ho, hp1.turn hk ?_ h.pg.pl, hk⟩
  exact (hb.block g hp1.blk.lt).trans h.pg.blk
theorem wpl_li {ops : Array Oper} {rest : List Oper} {o : Oper} {a : Act} {Q : Exit → Act → World → Prop} {g : Nat} {A : Option Addr} {n cap : Nat} {bs : List Nat} {w1 wr : World} {te : TypeId} {size : Nat} {v : Value} {k : Nat} {xs : List Value} {q q1 : Nat} (hg : o.guard = none) (s x : Operand) (ts : TypeId) (z : Value) (bytes : Nat)
    (hts : Tryz.prog.underlying ts = some (.slice te)) (hinfo : (Tryz.prog.info? te).map (fun i => (i.zero, i.size, i.bytes)) = some (some z, size, bytes)) (hz : z.cells.size = size) (h0 : 0 < size) (hb0 : 0 < bytes)
    (ho : o.op = .call { callee := .builtin .append, args := #[s, x], argTypes := #[ts, ts] }) (hst : LiR g A n cap bs w1 te size v k xs q wr) (hp1 : PG g A n cap bs q1 w1) (hl : (k + 1) * bytes ≤ 140737488355328) (us : List Value) (hus : us.length = 1 * size) (hu : ∀ u ∈ us, u.oneCell' = true) (hs : a.eval s = v) (hx : a.eval x = .slice (some ⟨wr.heap.size, 0, none⟩) 1 1)
    (h : ∀ v' w', Hid (LiR g A n cap bs w1 te size v' (k + 1) (xs ++ us) q w') → wpList Tryz.prog ops Q rest (a.put o.dst v') w') : wpList Tryz.prog ops Q (o :: rest) a (wr.alloc (.cells us.toArray te)) := by
  have hsz := hst.kp.size
  have hb1 : Below w1.heap.size wr (wr.alloc (.cells us.toArray te)) := (Below.refl _ _).alloc hsz _
  have hst' : LiR g A n cap bs w1 te size v k xs q (wr.alloc (.cells us.toArray te)) := hst.grow hp1 (hst.own.alloc _) hb1
  refine wpl_append hg s x ts ho (wr.alloc (.cells us.toArray te)) w1.heap.size te z size bytes hts hinfo hz h0 v k xs hs hst'.own (wr.heap.size + 1) (some ⟨wr.heap.size, 0, none⟩) 1 1 us hx (Reads.lit wr te us size 1 hus) hu hl hb0 (Below.refl _ _) (Nat.le_trans hsz hb1.size) fun v' w' hh => h v' w' (Lh (hst'.grow hp1 hh.out.1 hh.out.2.1))
structure Lst (lo size : Nat) (A : Option Addr) (c k : Nat) (xs : List Value) (w : World) : Prop where
  rd : Reads w w.heap.size size A k xs
  lo : 0 < k → ∀ ad, A = some ad → lo ≤ ad.block
  kc : k ≤ c
  cm : c ≤ maxLen
def Apart (y k : Nat) (A : Option Addr) : Prop := 0 < k → ∀ ad, A = some ad → ad.block ≠ y
theorem Lst.apart_lo {lo size : Nat} {A : Option Addr} {c k : Nat} {xs : List Value} {w : World} (h : Lst lo size A c k xs w) {y : Nat} (hy : y < lo) : Apart y k A := fun h0 ad e => by have := h.lo h0 ad e; omega
theorem Lst.apart_hi {lo size : Nat} {A : Option Addr} {c k : Nat} {xs : List Value} {w : World} (h : Lst lo size A c k xs w) {y : Nat} (hy : w.heap.size ≤ y) : Apart y k A := fun h0 ad e => by
  obtain ⟨ad', e', hb, -⟩ := h.rd.2 h0
  rw [e] at e'
  obtain rfl := Option.some.inj e'
  omega
theorem Lst.mono {lo lo' size : Nat} {A : Option Addr} {c k : Nat} {xs : List Value} {w : World} (h : Lst lo size A c k xs w) (hl : lo' ≤ lo) : Lst lo' size A c k xs w := ⟨h.rd, fun h0 ad e => Nat.le_trans hl (h.lo h0 ad e), h.kc, h.cm⟩
theorem Lst.keep {lo size : Nat} {A : Option Addr} {c k : Nat} {xs : List Value} {w w' : World} (h : Lst lo size A c k xs w) {g : Nat} (hk : Keep (Not g) w w') (hg : g < lo) : Lst lo size A c k xs w' := ⟨hk.reads h.rd (fun h0 => h.apart_lo hg h0), h.lo, h.kc, h.cm⟩
theorem Lst.alloc {lo size : Nat} {A : Option Addr} {c k : Nat} {xs : List Value} {w : World} (h : Lst lo size A c k xs w) (o : Obj) : Lst lo size A c k xs (w.alloc o) := ⟨h.rd.later ((Below.refl _ _).alloc (Nat.le_refl _) o), h.lo, h.kc, h.cm⟩
theorem Lst.only {lo size : Nat} {A : Option Addr} {c k : Nat} {xs : List Value} {w w' : World} (h : Lst lo size A c k xs w) {y : Nat} (ho : Only y w w') (ha : Apart y k A) : Lst lo size A c k xs w' := by
  have hk : Keep (fun b => b ≠ y) w w' := Keep.only ho (fun h => h rfl)
  exact ⟨hk.reads h.rd ha, h.lo, h.kc, h.cm⟩
theorem LiR.list {g : Nat} {A : Option Addr} {n cap : Nat} {bs : List Nat} {w1 wr : World} {t : TypeId} {size : Nat} {v : Value} {k : Nat} {xs : List Value} {q : Nat} (h : LiR g A n cap bs w1 t size v k xs q wr) {lo : Nat} (hl : lo ≤ w1.heap.size) : ∃ A1 c1, v = .slice A1 k c1 ∧ Lst lo size A1 c1 k xs wr := by
  obtain ⟨A1, c1, rfl, h1, h2⟩ := own_slice h.own
  refine ⟨A1, c1, rfl, Reads.of_own h.own, fun hk ad e => ?_, h1, h2⟩
  rcases h.own.2 with ⟨e', h0⟩ | ⟨b, c, cur, e', hb, -⟩
  · omega
  · injection e' with e' _ _
    rw [e] at e'
    obtain rfl := Option.some.inj e'
    exact Nat.le_trans hl hb
def vInts (lo : Nat) (xs : List Int) (w : World) (v : Value) : Prop := ∃ A c, v = .slice A xs.length c ∧ Lst lo 1 A c xs.length (xs.map iv) w ∧ (∀ x ∈ xs, -9223372036854775808 ≤ x ∧ x ≤ 9223372036854775807) ∧ xs.length ≤ 1048576
end Go.Proofs.YtijdbdenmcjmmaaGreatDoor
end
