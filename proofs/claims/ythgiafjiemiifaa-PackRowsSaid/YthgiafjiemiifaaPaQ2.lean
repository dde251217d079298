/-
  THE REFERENCE'S P WHILE IT READS: its state, its numbers, flags. (printed by gen_paq2.py)
-/
import Derived.Test.YthgiafjiemiifaaPaF4
import Derived.Test.YthgiafjiemiifaaPaF1
import Derived.Test.YthgiafjiemiifaaPaQ1
namespace Go.Proofs.Ythgiafjiemiifaa
open Go.RowKit OctMath
set_option linter.unusedVariables false
/-- The reference's reader: where it is; whether it has gone bad. -/
structure PF (g : Nat) (A : Option Addr) (n cap : Nat) (bs : List Nat) (s : Int × Bool) (w : World) : Prop where
  blk : Blk w g 122 #[.slice A n cap, .int .i64 s.1, .bool false, .bool s.2]
  rd : Reads w w.heap.size 1 A n (bs.map bv)
  ne : 0 < n → ∀ ad, A = some ad → Not g ad.block
theorem PF.turn {g : Nat} {A : Option Addr} {n cap : Nat} {s s' : Int × Bool} {bs : List Nat} {w w' : World} (h : PF g A n cap bs s w) (k : Keep (Not g) w w') (hB : Blk w' g 122 #[.slice A n cap, .int .i64 s'.1, .bool false, .bool s'.2]) : PF g A n cap bs s' w' :=
  ⟨hB, k.reads h.rd h.ne, h.ne⟩
theorem PF.drew {g : Nat} {A : Option Addr} {n cap : Nat} {bs : List Nat} {s : Int × Bool} {w : World} (h : PF g A n cap bs s w) : PF g A n cap bs s w.drew := ⟨h.blk, h.rd, h.ne⟩
theorem PF.put {g : Nat} {A : Option Addr} {n cap : Nat} {q : Int} {bs : List Nat} {s : Int × Bool} {w : World} (h : PF g A n cap bs s w) : PF g A n cap bs (q, s.2) (w.setCell ⟨g, 1, none⟩ (.int .i64 q)) ∧ Keep (Not g) w (w.setCell ⟨g, 1, none⟩ (.int .i64 q)) := by
  have k := Keep.set_ (Not g) w (g := g) 1 (.int .i64 q) (fun h => h rfl)
  exact ⟨h.turn k (by have := h.blk.set_ 1 (.int .i64 q); simpa using this), k⟩
theorem PF.spoil {g : Nat} {A : Option Addr} {n cap : Nat} {bs : List Nat} {s : Int × Bool} {w : World} (h : PF g A n cap bs s w) : PF g A n cap bs (s.1, true) (w.setCell ⟨g, 3, none⟩ (.bool true)) ∧ Keep (Not g) w (w.setCell ⟨g, 3, none⟩ (.bool true)) := by
  have k := Keep.set_ (Not g) w (g := g) 3 (.bool true) (fun h => h rfl)
  exact ⟨h.turn k (by have := h.blk.set_ 3 (.bool true); simpa using this), k⟩
/-- What the reader is over. -/
structure Ov (n cap : Nat) (bs : List Nat) : Prop where
  byt : Byt bs
  len : bs.length = n
  le : n ≤ cap
  mx : cap ≤ maxLen
  reach : n ≤ 140737488351232
/-- What a reading step of the reference does. -/
def RetF (s' : Int × Bool) (v : Value) (g : Nat) (A : Option Addr) (n cap : Nat) (bs : List Nat) (w : World) (e : Ending) (w' : World) : Prop := e = .returned v ∧ PF g A n cap bs s' w' ∧ Keep (Not g) w w'
def u64R (bs : List Nat) (s : Int × Bool) : (Int × Bool) × Nat := if s.2 = false ∧ (rdN bs s.1).2.2 = 0 then (((rdN bs s.1).2.1, false), (rdN bs s.1).1) else ((s.1, true), 0)
def intR (bs : List Nat) (s : Int × Bool) : (Int × Bool) × Int := if s.2 = false ∧ (rdN bs s.1).2.2 = 0 then (((rdN bs s.1).2.1, false), unz (rdN bs s.1).1) else ((s.1, true), 0)
def rdFlI (bs : List Nat) (at_ : Int) : Bool × Int × Nat := if at_ < 0 then (false, 0, 2) else rdFl bs at_.toNat
def flagR (bs : List Nat) (s : Int × Bool) : (Int × Bool) × Bool := if s.2 = false ∧ (rdFlI bs s.1).2.2 = 0 then (((rdFlI bs s.1).2.1, false), (rdFlI bs s.1).1) else ((s.1, true), false)
set_option maxRecDepth 100000 in
set_option maxHeartbeats 1000000 in
theorem rflag_int (A : Option Addr) (cap n : Nat) (at_ : Int) (bs : List Nat) (w : World) (hb : Byt bs) (hn : bs.length = n) (hr : Reads w w.heap.size 1 A n (bs.map bv)) (hm : n ≤ maxLen) :
    Calls Try.prog 98 #[.slice A n cap, .int .i64 at_] w fun e w' => e = .returned (.tuple #[.bool (rdFlI bs at_).1, .int .i64 (rdFlI bs at_).2.1, .int .i64 (rdFlI bs at_).2.2]) ∧ w = w' := by
  by_cases h : at_ < 0
  · have HR := Lib.hid (show rdFlI bs at_ = (false, 0, 2) from by unfold rdFlI; rw [if_pos h])
    have d1 : decide (at_ < 0) = true := decide_eq_true h
    clear hr hb hn
    go_enter Try.func98, Try.ntmps98
    go_wp2
    go_ret3
    rw [HR.out]
    exact ⟨rfl, rfl⟩
  · obtain ⟨p, rfl⟩ := Int.eq_ofNat_of_zero_le (Int.not_lt.1 h)
    rw [show rdFlI bs (p : Int) = rdFl bs p from by unfold rdFlI; rw [if_neg h]; rfl]
    exact rflag_any A cap n p bs w hb hn hr hm
set_option maxRecDepth 100000 in
set_option maxHeartbeats 1000000 in
theorem pr_u64 (g : Nat) (A : Option Addr) (n cap : Nat) (bs : List Nat) (s : Int × Bool) (x : Nat) (w : World) (hP : Hid (PF g A n cap bs s w)) (hO : Ov n cap bs) :
    Calls Try.prog 74 #[.pointer (some ⟨g, 0, none⟩), .int .u64 (x : Int)] w (RetF (u64R bs s).1 (.int .u64 ((u64R bs s).2 : Int)) g A n cap bs w) := by
  obtain ⟨p, bad⟩ := s
  have c0 := hP.out.blk.cell 0
  have c1 := hP.out.blk.cell 1
  have c2 := hP.out.blk.cell 2
  have c3 := hP.out.blk.cell 3
  have fz := hP.out.blk.frozen
  have HN := Lib.hid (rnumber_any A cap n p bs w.drew hO.byt hO.len hP.out.drew.rd hO.le hO.mx)
  have HR := Lib.hid (show u64R bs (p, bad) = if bad = false ∧ (rdN bs p).2.2 = 0 then (((rdN bs p).2.1, false), (rdN bs p).1) else ((p, true), 0) from rfl)
  have HS := Lib.hid (hP.out.drew.spoil)
  have HE := Lib.hid (fun q => hP.out.drew.put (q := q))
  clear hP hO
  generalize u64R bs (p, bad) = R at *
  generalize rdN bs p = r at *
  obtain ⟨v, q, er⟩ := r
  simp only at HN HR c0 c1 c2 c3 HS HE
  cases bad with
  | true =>
    rw [if_neg (by simp)] at HR
    go_enter Try.func74, Try.ntmps74
    go_wp2
    go_region_held3 (fun w' => w'.cell? ⟨g, 0, none⟩ = some (.slice A n cap) ∧ w'.cell? ⟨g, 1, none⟩ = some (.int .i64 p)) (first | exact ⟨c0, c1⟩ | fail) (first
      | (go_at_call 93; refine HN.out.mono ?_; rintro e w1 ⟨rfl, hw⟩; rw [← hw]; clear hw))
    go_wp2
    go_ret
    rw [HR.out]
    exact ⟨rfl, HS.out.1, keep_drew.trans HS.out.2⟩
  | false =>
  by_cases he : er = 0
  · subst he
    rw [if_pos ⟨rfl, rfl⟩] at HR
    go_enter Try.func74, Try.ntmps74
    go_wp2
    go_region_held3 (fun w' => w'.cell? ⟨g, 0, none⟩ = some (.slice A n cap) ∧ w'.cell? ⟨g, 1, none⟩ = some (.int .i64 p)) (first | exact ⟨c0, c1⟩ | fail) (first
      | (go_at_call 93; refine HN.out.mono ?_; rintro e w1 ⟨rfl, hw⟩; rw [← hw]; clear hw))
    go_wp2
    go_ret
    rw [HR.out]
    exact ⟨rfl, (HE.out _).1, keep_drew.trans (HE.out _).2⟩
  · rw [if_neg (fun h => he h.2)] at HR
    have hne : ((er : Int) != 0) = true := by rw [bne_iff_ne]; omega
    clear he
    go_enter Try.func74, Try.ntmps74
    go_wp2
    go_region_held3 (fun w' => w'.cell? ⟨g, 0, none⟩ = some (.slice A n cap) ∧ w'.cell? ⟨g, 1, none⟩ = some (.int .i64 p)) (first | exact ⟨c0, c1⟩ | fail) (first
      | (go_at_call 93; refine HN.out.mono ?_; rintro e w1 ⟨rfl, hw⟩; rw [← hw]; clear hw))
    go_wp2
    go_ret
    rw [HR.out]
    exact ⟨rfl, HS.out.1, keep_drew.trans HS.out.2⟩
set_option maxRecDepth 100000 in
set_option maxHeartbeats 1000000 in
theorem pr_int (g : Nat) (A : Option Addr) (n cap : Nat) (bs : List Nat) (s : Int × Bool) (x : Int) (w : World) (hP : Hid (PF g A n cap bs s w)) (hO : Ov n cap bs) :
    Calls Try.prog 60 #[.pointer (some ⟨g, 0, none⟩), .int .i64 x] w (RetF (intR bs s).1 (.int .i64 (intR bs s).2) g A n cap bs w) := by
  obtain ⟨p, bad⟩ := s
  have c0 := hP.out.blk.cell 0
  have c1 := hP.out.blk.cell 1
  have c2 := hP.out.blk.cell 2
  have c3 := hP.out.blk.cell 3
  have fz := hP.out.blk.frozen
  have HN := Lib.hid (rint_any A cap n p bs w.drew hO.byt hO.len hP.out.drew.rd hO.le hO.mx)
  have HR := Lib.hid (show intR bs (p, bad) = if bad = false ∧ (rdN bs p).2.2 = 0 then (((rdN bs p).2.1, false), unz (rdN bs p).1) else ((p, true), 0) from rfl)
  have HS := Lib.hid (hP.out.drew.spoil)
  have HE := Lib.hid (fun q => hP.out.drew.put (q := q))
  clear hP hO
  generalize intR bs (p, bad) = R at *
  generalize rdN bs p = r at *
  obtain ⟨v, q, er⟩ := r
  simp only at HN HR c0 c1 c2 c3 HS HE
  cases bad with
  | true =>
    rw [if_neg (by simp)] at HR
    go_enter Try.func60, Try.ntmps60
    go_wp2
    go_region_held3 (fun w' => w'.cell? ⟨g, 0, none⟩ = some (.slice A n cap) ∧ w'.cell? ⟨g, 1, none⟩ = some (.int .i64 p)) (first | exact ⟨c0, c1⟩ | fail) (first
      | (go_at_call 90; refine HN.out.mono ?_; rintro e w1 ⟨rfl, hw⟩; rw [← hw]; clear hw))
    go_wp2
    go_ret
    rw [HR.out]
    exact ⟨rfl, HS.out.1, keep_drew.trans HS.out.2⟩
  | false =>
  by_cases he : er = 0
  · subst he
    rw [if_pos ⟨rfl, rfl⟩] at HR
    go_enter Try.func60, Try.ntmps60
    go_wp2
    go_region_held3 (fun w' => w'.cell? ⟨g, 0, none⟩ = some (.slice A n cap) ∧ w'.cell? ⟨g, 1, none⟩ = some (.int .i64 p)) (first | exact ⟨c0, c1⟩ | fail) (first
      | (go_at_call 90; refine HN.out.mono ?_; rintro e w1 ⟨rfl, hw⟩; rw [← hw]; clear hw))
    go_wp2
    go_ret
    rw [HR.out]
    exact ⟨rfl, (HE.out _).1, keep_drew.trans (HE.out _).2⟩
  · rw [if_neg (fun h => he h.2)] at HR
    have hne : ((er : Int) != 0) = true := by rw [bne_iff_ne]; omega
    clear he
    go_enter Try.func60, Try.ntmps60
    go_wp2
    go_region_held3 (fun w' => w'.cell? ⟨g, 0, none⟩ = some (.slice A n cap) ∧ w'.cell? ⟨g, 1, none⟩ = some (.int .i64 p)) (first | exact ⟨c0, c1⟩ | fail) (first
      | (go_at_call 90; refine HN.out.mono ?_; rintro e w1 ⟨rfl, hw⟩; rw [← hw]; clear hw))
    go_wp2
    go_ret
    rw [HR.out]
    exact ⟨rfl, HS.out.1, keep_drew.trans HS.out.2⟩
set_option maxRecDepth 100000 in
set_option maxHeartbeats 1000000 in
theorem pr_flag (g : Nat) (A : Option Addr) (n cap : Nat) (bs : List Nat) (s : Int × Bool) (x : Bool) (w : World) (hP : Hid (PF g A n cap bs s w)) (hO : Ov n cap bs) :
    Calls Try.prog 82 #[.pointer (some ⟨g, 0, none⟩), .bool x] w (RetF (flagR bs s).1 (.bool (flagR bs s).2) g A n cap bs w) := by
  obtain ⟨p, bad⟩ := s
  have c0 := hP.out.blk.cell 0
  have c1 := hP.out.blk.cell 1
  have c2 := hP.out.blk.cell 2
  have c3 := hP.out.blk.cell 3
  have fz := hP.out.blk.frozen
  have HN := Lib.hid (rflag_int A cap n p bs w.drew hO.byt hO.len hP.out.drew.rd (Nat.le_trans hO.le hO.mx))
  have HR := Lib.hid (show flagR bs (p, bad) = if bad = false ∧ (rdFlI bs p).2.2 = 0 then (((rdFlI bs p).2.1, false), (rdFlI bs p).1) else ((p, true), false) from rfl)
  have HS := Lib.hid (hP.out.drew.spoil)
  have HE := Lib.hid (fun q => hP.out.drew.put (q := q))
  clear hP hO
  generalize flagR bs (p, bad) = R at *
  generalize rdFlI bs p = r at *
  obtain ⟨v, q, er⟩ := r
  simp only at HN HR c0 c1 c2 c3 HS HE
  cases bad with
  | true =>
    rw [if_neg (by simp)] at HR
    go_enter Try.func82, Try.ntmps82
    go_wp2
    go_region_held3 (fun w' => w'.cell? ⟨g, 0, none⟩ = some (.slice A n cap) ∧ w'.cell? ⟨g, 1, none⟩ = some (.int .i64 p)) (first | exact ⟨c0, c1⟩ | fail) (first
      | (go_at_call 98; refine HN.out.mono ?_; rintro e w1 ⟨rfl, hw⟩; rw [← hw]; clear hw))
    go_wp2
    go_ret
    rw [HR.out]
    exact ⟨rfl, HS.out.1, keep_drew.trans HS.out.2⟩
  | false =>
  by_cases he : er = 0
  · subst he
    rw [if_pos ⟨rfl, rfl⟩] at HR
    go_enter Try.func82, Try.ntmps82
    go_wp2
    go_region_held3 (fun w' => w'.cell? ⟨g, 0, none⟩ = some (.slice A n cap) ∧ w'.cell? ⟨g, 1, none⟩ = some (.int .i64 p)) (first | exact ⟨c0, c1⟩ | fail) (first
      | (go_at_call 98; refine HN.out.mono ?_; rintro e w1 ⟨rfl, hw⟩; rw [← hw]; clear hw))
    go_wp2
    go_ret
    rw [HR.out]
    exact ⟨rfl, (HE.out _).1, keep_drew.trans (HE.out _).2⟩
  · rw [if_neg (fun h => he h.2)] at HR
    have hne : ((er : Int) != 0) = true := by rw [bne_iff_ne]; omega
    clear he
    go_enter Try.func82, Try.ntmps82
    go_wp2
    go_region_held3 (fun w' => w'.cell? ⟨g, 0, none⟩ = some (.slice A n cap) ∧ w'.cell? ⟨g, 1, none⟩ = some (.int .i64 p)) (first | exact ⟨c0, c1⟩ | fail) (first
      | (go_at_call 98; refine HN.out.mono ?_; rintro e w1 ⟨rfl, hw⟩; rw [← hw]; clear hw))
    go_wp2
    go_ret
    rw [HR.out]
    exact ⟨rfl, HS.out.1, keep_drew.trans HS.out.2⟩
def u32R (bs : List Nat) (s : Int × Bool) : (Int × Bool) × Nat := if (u64R bs s).2 < 4294967296 then u64R bs s else (((u64R bs s).1.1, true), (u64R bs s).2 % 4294967296)
theorem u64R_lt (bs : List Nat) (hb : Byt bs) (s : Int × Bool) : (u64R bs s).2 < 18446744073709551616 := by
  unfold u64R
  split
  · exact (rdN_lt bs s.1 hb).1
  · exact Nat.zero_lt_succ _
set_option maxRecDepth 100000 in
set_option maxHeartbeats 1000000 in
theorem pr_u32 (g : Nat) (A : Option Addr) (n cap : Nat) (bs : List Nat) (s : Int × Bool) (x : Nat) (w : World) (hP : Hid (PF g A n cap bs s w)) (hO : Ov n cap bs) (hx : x < 4294967296) :
    Calls Try.prog 61 #[.pointer (some ⟨g, 0, none⟩), .int .u32 (x : Int)] w (RetF (u32R bs s).1 (.int .u32 ((u32R bs s).2 : Int)) g A n cap bs w) := by
  have HR := Lib.hid (show u32R bs s = if (u64R bs s).2 < 4294967296 then u64R bs s else (((u64R bs s).1.1, true), (u64R bs s).2 % 4294967296) from rfl)
  have hlt := u64R_lt bs hO.byt s
  have e0 : IntKind.u64.wrap (x : Int) = (x : Int) := by rw [IntKind.wrap_u64]; omega
  have HC := Lib.hid (pr_u64 g A n cap bs s x w hP hO)
  generalize u32R bs s = R at *
  generalize u64R bs s = r at *
  obtain ⟨s1, y⟩ := r
  simp only at HC HR hlt
  go_enter Try.func61, Try.ntmps61
  go_wp2_with fail
  refine HC.out.mono ?_
  rintro e w1 ⟨rfl, hp, hk⟩
  have HK := Lib.hid hk
  have HP1 := Lib.hid hp
  clear hk hp
  by_cases h : y < 4294967296
  · rw [if_pos h] at HR
    have e1 : (y : Int) / 4294967296 = 0 := by omega
    have e2 : IntKind.u32.wrap (y : Int) = (y : Int) := by rw [IntKind.wrap_u32]; omega
    go_wp2
    go_ret
    rw [HR.out]
    exact ⟨rfl, HP1.out, HK.out⟩
  · rw [if_neg h] at HR
    have c3 := HP1.out.blk.cell 3
    have fz := HP1.out.blk.frozen
    have HS := Lib.hid HP1.out.spoil
    have e1 : ((y : Int) / 4294967296 != 0) = true := by rw [bne_iff_ne]; omega
    have e2 : IntKind.u32.wrap (y : Int) = ((y % 4294967296 : Nat) : Int) := by rw [IntKind.wrap_u32]; omega
    go_wp2
    go_ret
    rw [HR.out]
    exact ⟨by first | rfl | (rw [e2]) | simp, HS.out.1, HK.out.trans HS.out.2⟩
end Go.Proofs.Ythgiafjiemiifaa
