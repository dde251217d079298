/-
  THE REFERENCE'S P WHILE IT READS: its state, its numbers, flags. (printed by gen_paq2.py); THE REFERENCE'S P WHILE IT READS: lengths, bytes, texts. (joined out of PaQ2, PaQ3 by shake.py)
-/
import Derived.Test.YthgiafjiemiifaaGreatPst16
import Derived.Test.YthgiafjiemiifaaGreatPst08
import Derived.Test.YthgiafjiemiifaaGreatPst07
section
namespace Go.Proofs.YthgiafjiemiifaaGreat
open Go.RowKit OctMath
set_option linter.unusedVariables false
/-- The reference's reader: where it is; whether it has gone bad. -/
structure PF (g : Nat) (A : Option Addr) (n cap : Nat) (bs : List Nat) (s : Int × Bool) (w : World) : Prop where
  blk : Blk w g 112 #[.slice A n cap, .int .i64 s.1, .bool false, .bool s.2]
  rd : Reads w w.heap.size 1 A n (bs.map bv)
  ne : 0 < n → ∀ ad, A = some ad → Not g ad.block
theorem PF.turn {g : Nat} {A : Option Addr} {n cap : Nat} {s s' : Int × Bool} {bs : List Nat} {w w' : World} (h : PF g A n cap bs s w) (k : Keep (Not g) w w') (hB : Blk w' g 112 #[.slice A n cap, .int .i64 s'.1, .bool false, .bool s'.2]) : PF g A n cap bs s' w' :=
  ⟨hB, k.reads h.rd h.ne, h.ne⟩
theorem PF.drew {g : Nat} {A : Option Addr} {n cap : Nat} {bs : List Nat} {s : Int × Bool} {w : World} (h : PF g A n cap bs s w) : PF g A n cap bs s w.drew := ⟨h.blk, h.rd, h.ne⟩
theorem PF.put {g : Nat} {A : Option Addr} {n cap : Nat} {q : Int} {bs : List Nat} {s : Int × Bool} {w : World} (h : PF g A n cap bs s w) : PF g A n cap bs (q, s.2) (w.setCell ⟨g, 1, none⟩ (.int .i64 q)) ∧ Keep (Not g) w (w.setCell ⟨g, 1, none⟩ (.int .i64 q)) := by
  have k := Keep.set_ (Not g) w (g := g) 1 (.int .i64 q) (fun h => h rfl)
  exact ⟨h.turn k (by have := h.blk.set_ 1 (.int .i64 q); simpa using this), k⟩
theorem PF.spoil {g : Nat} {A : Option Addr} {n cap : Nat} {bs : List Nat} {s : Int × Bool} {w : World} (h : PF g A n cap bs s w) : PF g A n cap bs (s.1, true) (w.setCell ⟨g, 3, none⟩ (.bool true)) ∧ Keep (Not g) w (w.setCell ⟨g, 3, none⟩ (.bool true)) := by
  have k := Keep.set_ (Not g) w (g := g) 3 (.bool true) (fun h => h rfl)
  exact ⟨h.turn k (by have := h.blk.set_ 3 (.bool true); simpa using this), k⟩
/-- What the reader is over. -/
structure Ov (n cap : Nat) (bs : List Nat) : Prop where
  byt : Byt bs
  len : bs.length = n
  le : n ≤ cap
  mx : cap ≤ maxLen
  reach : n ≤ 140737488351232
/-- What a reading step of the reference does. -/
def RetF (s' : Int × Bool) (v : Value) (g : Nat) (A : Option Addr) (n cap : Nat) (bs : List Nat) (w : World) (e : Ending) (w' : World) : Prop := e = .returned v ∧ PF g A n cap bs s' w' ∧ Keep (Not g) w w'
def u64R (bs : List Nat) (s : Int × Bool) : (Int × Bool) × Nat := if s.2 = false ∧ (rdN bs s.1).2.2 = 0 then (((rdN bs s.1).2.1, false), (rdN bs s.1).1) else ((s.1, true), 0)
def intR (bs : List Nat) (s : Int × Bool) : (Int × Bool) × Int := if s.2 = false ∧ (rdN bs s.1).2.2 = 0 then (((rdN bs s.1).2.1, false), unz (rdN bs s.1).1) else ((s.1, true), 0)
def rdFlI (bs : List Nat) (at_ : Int) : Bool × Int × Nat := if at_ < 0 then (false, 0, 2) else rdFl bs at_.toNat
def flagR (bs : List Nat) (s : Int × Bool) : (Int × Bool) × Bool := if s.2 = false ∧ (rdFlI bs s.1).2.2 = 0 then (((rdFlI bs s.1).2.1, false), (rdFlI bs s.1).1) else ((s.1, true), false)
set_option maxRecDepth 100000 in
set_option maxHeartbeats 1000000 in
theorem rflag_int (A : Option Addr) (cap n : Nat) (at_ : Int) (bs : List Nat) (w : World) (hb : Byt bs) (hn : bs.length = n) (hr : Reads w w.heap.size 1 A n (bs.map bv)) (hm : n ≤ maxLen) :
    Calls Tryz.prog 115 #[.slice A n cap, .int .i64 at_] w fun e w' => e = .returned (.tuple #[.bool (rdFlI bs at_).1, .int .i64 (rdFlI bs at_).2.1, .int .i64 (rdFlI bs at_).2.2]) ∧ w = w' := by
  by_cases h : at_ < 0
  · have HR := Lib.hid (show rdFlI bs at_ = (false, 0, 2) from by unfold rdFlI; rw [if_pos h])
    have d1 : decide (at_ < 0) = true := decide_eq_true h
    clear hr hb hn
    go_enter Tryz.func115, Tryz.ntmps115
    go_wp2
    go_ret3
    rw [HR.out]
    exact ⟨rfl, rfl⟩
  · obtain ⟨p, rfl⟩ := Int.eq_ofNat_of_zero_le (Int.not_lt.1 h)
    rw [show rdFlI bs (p : Int) = rdFl bs p from by unfold rdFlI; rw [if_neg h]; rfl]
    exact rflag_any A cap n p bs w hb hn hr hm
set_option maxRecDepth 100000 in
set_option maxHeartbeats 1000000 in
theorem pr_u64 (g : Nat) (A : Option Addr) (n cap : Nat) (bs : List Nat) (s : Int × Bool) (x : Nat) (w : World) (hP : Hid (PF g A n cap bs s w)) (hO : Ov n cap bs) :
    Calls Tryz.prog 45 #[.pointer (some ⟨g, 0, none⟩), .int .u64 (x : Int)] w (RetF (u64R bs s).1 (.int .u64 ((u64R bs s).2 : Int)) g A n cap bs w) := by
  obtain ⟨p, bad⟩ := s
  have c0 := hP.out.blk.cell 0
  have c1 := hP.out.blk.cell 1
  have c2 := hP.out.blk.cell 2
  have c3 := hP.out.blk.cell 3
  have fz := hP.out.blk.frozen
  have HN := Lib.hid (rnumber_any A cap n p bs w.drew hO.byt hO.len hP.out.drew.rd hO.le hO.mx)
  have HR := Lib.hid (show u64R bs (p, bad) = if bad = false ∧ (rdN bs p).2.2 = 0 then (((rdN bs p).2.1, false), (rdN bs p).1) else ((p, true), 0) from rfl)
  have HS := Lib.hid (hP.out.drew.spoil)
  have HE := Lib.hid (fun q => hP.out.drew.put (q := q))
  clear hP hO
  generalize u64R bs (p, bad) = R at *
  generalize rdN bs p = r at *
  obtain ⟨v, q, er⟩ := r
  simp only at HN HR c0 c1 c2 c3 HS HE
  cases bad with
  | true =>
    rw [if_neg (by simp)] at HR
    go_enter Tryz.func45, Tryz.ntmps45
    go_wp2
    go_region_held3 (fun w' => w'.cell? ⟨g, 0, none⟩ = some (.slice A n cap) ∧ w'.cell? ⟨g, 1, none⟩ = some (.int .i64 p)) (first | exact ⟨c0, c1⟩ | fail) (first
      | (go_at_call 96; refine HN.out.mono ?_; rintro e w1 ⟨rfl, hw⟩; rw [← hw]; clear hw))
    go_wp2
    go_ret
    rw [HR.out]
    exact ⟨rfl, HS.out.1, keep_drew.trans HS.out.2⟩
  | false =>
  by_cases he : er = 0
  · subst he
    rw [if_pos ⟨rfl, rfl⟩] at HR
    go_enter Tryz.func45, Tryz.ntmps45
    go_wp2
    go_region_held3 (fun w' => w'.cell? ⟨g, 0, none⟩ = some (.slice A n cap) ∧ w'.cell? ⟨g, 1, none⟩ = some (.int .i64 p)) (first | exact ⟨c0, c1⟩ | fail) (first
      | (go_at_call 96; refine HN.out.mono ?_; rintro e w1 ⟨rfl, hw⟩; rw [← hw]; clear hw))
    go_wp2
    go_ret
    rw [HR.out]
    exact ⟨rfl, (HE.out _).1, keep_drew.trans (HE.out _).2⟩
  · rw [if_neg (fun h => he h.2)] at HR
    have hne : ((er : Int) != 0) = true := by rw [bne_iff_ne]; omega
    clear he
    go_enter Tryz.func45, Tryz.ntmps45
    go_wp2
    go_region_held3 (fun w' => w'.cell? ⟨g, 0, none⟩ = some (.slice A n cap) ∧ w'.cell? ⟨g, 1, none⟩ = some (.int .i64 p)) (first | exact ⟨c0, c1⟩ | fail) (first
      | (go_at_call 96; refine HN.out.mono ?_; rintro e w1 ⟨rfl, hw⟩; rw [← hw]; clear hw))
    go_wp2
    go_ret
    rw [HR.out]
    exact ⟨rfl, HS.out.1, keep_drew.trans HS.out.2⟩
set_option maxRecDepth 100000 in
set_option maxHeartbeats 1000000 in
theorem pr_int (g : Nat) (A : Option Addr) (n cap : Nat) (bs : List Nat) (s : Int × Bool) (x : Int) (w : World) (hP : Hid (PF g A n cap bs s w)) (hO : Ov n cap bs) :
    Calls Tryz.prog 46 #[.pointer (some ⟨g, 0, none⟩), .int .i64 x] w (RetF (intR bs s).1 (.int .i64 (intR bs s).2) g A n cap bs w) := by
  obtain ⟨p, bad⟩ := s
  have c0 := hP.out.blk.cell 0
  have c1 := hP.out.blk.cell 1
  have c2 := hP.out.blk.cell 2
  have c3 := hP.out.blk.cell 3
  have fz := hP.out.blk.frozen
  have HN := Lib.hid (rint_any A cap n p bs w.drew hO.byt hO.len hP.out.drew.rd hO.le hO.mx)
  have HR := Lib.hid (show intR bs (p, bad) = if bad = false ∧ (rdN bs p).2.2 = 0 then (((rdN bs p).2.1, false), unz (rdN bs p).1) else ((p, true), 0) from rfl)
  have HS := Lib.hid (hP.out.drew.spoil)
  have HE := Lib.hid (fun q => hP.out.drew.put (q := q))
  clear hP hO
  generalize intR bs (p, bad) = R at *
  generalize rdN bs p = r at *
  obtain ⟨v, q, er⟩ := r
  simp only at HN HR c0 c1 c2 c3 HS HE
  cases bad with
  | true =>
    rw [if_neg (by simp)] at HR
    go_enter Tryz.func46, Tryz.ntmps46
    go_wp2
    go_region_held3 (fun w' => w'.cell? ⟨g, 0, none⟩ = some (.slice A n cap) ∧ w'.cell? ⟨g, 1, none⟩ = some (.int .i64 p)) (first | exact ⟨c0, c1⟩ | fail) (first
      | (go_at_call 98; refine HN.out.mono ?_; rintro e w1 ⟨rfl, hw⟩; rw [← hw]; clear hw))
    go_wp2
    go_ret
    rw [HR.out]
    exact ⟨rfl, HS.out.1, keep_drew.trans HS.out.2⟩
  | false =>
  by_cases he : er = 0
  · subst he
    rw [if_pos ⟨rfl, rfl⟩] at HR
    go_enter Tryz.func46, Tryz.ntmps46
    go_wp2
    go_region_held3 (fun w' => w'.cell? ⟨g, 0, none⟩ = some (.slice A n cap) ∧ w'.cell? ⟨g, 1, none⟩ = some (.int .i64 p)) (first | exact ⟨c0, c1⟩ | fail) (first
      | (go_at_call 98; refine HN.out.mono ?_; rintro e w1 ⟨rfl, hw⟩; rw [← hw]; clear hw))
    go_wp2
    go_ret
    rw [HR.out]
    exact ⟨rfl, (HE.out _).1, keep_drew.trans (HE.out _).2⟩
  · rw [if_neg (fun h => he h.2)] at HR
    have hne : ((er : Int) != 0) = true := by rw [bne_iff_ne]; omega
    clear he
    go_enter Tryz.func46, Tryz.ntmps46
    go_wp2
    go_region_held3 (fun w' => w'.cell? ⟨g, 0, none⟩ = some (.slice A n cap) ∧ w'.cell? ⟨g, 1, none⟩ = some (.int .i64 p)) (first | exact ⟨c0, c1⟩ | fail) (first
      | (go_at_call 98; refine HN.out.mono ?_; rintro e w1 ⟨rfl, hw⟩; rw [← hw]; clear hw))
    go_wp2
    go_ret
    rw [HR.out]
    exact ⟨rfl, HS.out.1, keep_drew.trans HS.out.2⟩
set_option maxRecDepth 100000 in
set_option maxHeartbeats 1000000 in
theorem pr_flag (g : Nat) (A : Option Addr) (n cap : Nat) (bs : List Nat) (s : Int × Bool) (x : Bool) (w : World) (hP : Hid (PF g A n cap bs s w)) (hO : Ov n cap bs) :
    Calls Tryz.prog 101 #[.pointer (some ⟨g, 0, none⟩), .bool x] w (RetF (flagR bs s).1 (.bool (flagR bs s).2) g A n cap bs w) := by
  obtain ⟨p, bad⟩ := s
  have c0 := hP.out.blk.cell 0
  have c1 := hP.out.blk.cell 1
  have c2 := hP.out.blk.cell 2
  have c3 := hP.out.blk.cell 3
  have fz := hP.out.blk.frozen
  have HN := Lib.hid (rflag_int A cap n p bs w.drew hO.byt hO.len hP.out.drew.rd (Nat.le_trans hO.le hO.mx))
  have HR := Lib.hid (show flagR bs (p, bad) = if bad = false ∧ (rdFlI bs p).2.2 = 0 then (((rdFlI bs p).2.1, false), (rdFlI bs p).1) else ((p, true), false) from rfl)
  have HS := Lib.hid (hP.out.drew.spoil)
  have HE := Lib.hid (fun q => hP.out.drew.put (q := q))
  clear hP hO
  generalize flagR bs (p, bad) = R at *
  generalize rdFlI bs p = r at *
  obtain ⟨v, q, er⟩ := r
  simp only at HN HR c0 c1 c2 c3 HS HE
  cases bad with
  | true =>
    rw [if_neg (by simp)] at HR
    go_enter Tryz.func101, Tryz.ntmps101
    go_wp2
    go_region_held3 (fun w' => w'.cell? ⟨g, 0, none⟩ = some (.slice A n cap) ∧ w'.cell? ⟨g, 1, none⟩ = some (.int .i64 p)) (first | exact ⟨c0, c1⟩ | fail) (first
      | (go_at_call 115; refine HN.out.mono ?_; rintro e w1 ⟨rfl, hw⟩; rw [← hw]; clear hw))
    go_wp2
    go_ret
    rw [HR.out]
    exact ⟨rfl, HS.out.1, keep_drew.trans HS.out.2⟩
  | false =>
  by_cases he : er = 0
  · subst he
    rw [if_pos ⟨rfl, rfl⟩] at HR
    go_enter Tryz.func101, Tryz.ntmps101
    go_wp2
    go_region_held3 (fun w' => w'.cell? ⟨g, 0, none⟩ = some (.slice A n cap) ∧ w'.cell? ⟨g, 1, none⟩ = some (.int .i64 p)) (first | exact ⟨c0, c1⟩ | fail) (first
      | (go_at_call 115; refine HN.out.mono ?_; rintro e w1 ⟨rfl, hw⟩; rw [← hw]; clear hw))
    go_wp2
    go_ret
    rw [HR.out]
    exact ⟨rfl, (HE.out _).1, keep_drew.trans (HE.out _).2⟩
  · rw [if_neg (fun h => he h.2)] at HR
    have hne : ((er : Int) != 0) = true := by rw [bne_iff_ne]; omega
    clear he
    go_enter Tryz.func101, Tryz.ntmps101
    go_wp2
    go_region_held3 (fun w' => w'.cell? ⟨g, 0, none⟩ = some (.slice A n cap) ∧ w'.cell? ⟨g, 1, none⟩ = some (.int .i64 p)) (first | exact ⟨c0, c1⟩ | fail) (first
      | (go_at_call 115; refine HN.out.mono ?_; rintro e w1 ⟨rfl, hw⟩; rw [← hw]; clear hw))
    go_wp2
    go_ret
    rw [HR.out]
    exact ⟨rfl, HS.out.1, keep_drew.trans HS.out.2⟩
def u32R (bs : List Nat) (s : Int × Bool) : (Int × Bool) × Nat := if (u64R bs s).2 < 4294967296 then u64R bs s else (((u64R bs s).1.1, true), (u64R bs s).2 % 4294967296)
theorem u64R_lt (bs : List Nat) (hb : Byt bs) (s : Int × Bool) : (u64R bs s).2 < 18446744073709551616 := by
  unfold u64R
  split
  · exact (rdN_lt bs s.1 hb).1
  · exact Nat.zero_lt_succ _
set_option maxRecDepth 100000 in
set_option maxHeartbeats 1000000 in
theorem pr_u32 (g : Nat) (A : Option Addr) (n cap : Nat) (bs : List Nat) (s : Int × Bool) (x : Nat) (w : World) (hP : Hid (PF g A n cap bs s w)) (hO : Ov n cap bs) (hx : x < 4294967296) :
    Calls Tryz.prog 100 #[.pointer (some ⟨g, 0, none⟩), .int .u32 (x : Int)] w (RetF (u32R bs s).1 (.int .u32 ((u32R bs s).2 : Int)) g A n cap bs w) := by
  have HR := Lib.hid (show u32R bs s = if (u64R bs s).2 < 4294967296 then u64R bs s else (((u64R bs s).1.1, true), (u64R bs s).2 % 4294967296) from rfl)
  have hlt := u64R_lt bs hO.byt s
  have e0 : IntKind.u64.wrap (x : Int) = (x : Int) := by rw [IntKind.wrap_u64]; omega
  have HC := Lib.hid (pr_u64 g A n cap bs s x w hP hO)
  generalize u32R bs s = R at *
  generalize u64R bs s = r at *
  obtain ⟨s1, y⟩ := r
  simp only at HC HR hlt
  go_enter Tryz.func100, Tryz.ntmps100
  go_wp2_with fail
  refine HC.out.mono ?_
  rintro e w1 ⟨rfl, hp, hk⟩
  have HK := Lib.hid hk
  have HP1 := Lib.hid hp
  clear hk hp
  by_cases h : y < 4294967296
  · rw [if_pos h] at HR
    have e1 : (y : Int) / 4294967296 = 0 := by omega
    have e2 : IntKind.u32.wrap (y : Int) = (y : Int) := by rw [IntKind.wrap_u32]; omega
    go_wp2
    go_ret
    rw [HR.out]
    exact ⟨rfl, HP1.out, HK.out⟩
  · rw [if_neg h] at HR
    have c3 := HP1.out.blk.cell 3
    have fz := HP1.out.blk.frozen
    have HS := Lib.hid HP1.out.spoil
    have e1 : ((y : Int) / 4294967296 != 0) = true := by rw [bne_iff_ne]; omega
    have e2 : IntKind.u32.wrap (y : Int) = ((y % 4294967296 : Nat) : Int) := by rw [IntKind.wrap_u32]; omega
    go_wp2
    go_ret
    rw [HR.out]
    exact ⟨by first | rfl | (rw [e2]) | simp, HS.out.1, HK.out.trans HS.out.2⟩
end Go.Proofs.YthgiafjiemiifaaGreat
end
section
namespace Go.Proofs.YthgiafjiemiifaaGreat
open Go.RowKit OctMath
set_option linter.unusedVariables false
theorem PF.below {g : Nat} {A : Option Addr} {n cap : Nat} {bs : List Nat} {s : Int × Bool} {w w' : World} (h : PF g A n cap bs s w) (k : Below w.heap.size w w') : PF g A n cap bs s w' :=
  h.turn (Keep.below k) ((Keep.below (H := fun _ => True) k).blk h.blk trivial)
/-- Bytes do not lie in the reader's own block. -/
theorem PF.apart {g : Nat} {A : Option Addr} {n cap : Nat} {bs : List Nat} {s : Int × Bool} {w : World} (h : PF g A n cap bs s w) {B m : Nat} {A1 : Option Addr} {xs : List Nat} (hr : Reads w B 1 A1 m (xs.map bv)) : 0 < m → ∀ ad, A1 = some ad → Not g ad.block := by
  intro hm ad ha hg
  obtain ⟨ad', u, e1, hB, h2, h3⟩ := hr.at_ hm
  rw [ha] at e1
  injection e1 with e1
  rw [← e1] at h3
  rw [show ad.add 0 = ad from rfl] at h3
  rw [List.getElem?_map] at h2
  obtain ⟨x, -, rfl⟩ := Option.map_eq_some_iff.1 h2
  have hb : w.heap[ad.block]? = some (.cells #[.slice A n cap, .int .i64 s.1, .bool false, .bool s.2] 112) := by rw [hg]; exact h.blk
  unfold World.cell? at h3
  rw [hb] at h3
  simp only at h3
  split at h3
  · cases h3
  · match ho : ad.off, h3 with
    | 0, h3 => simp [bv] at h3
    | 1, h3 => simp [bv] at h3
    | 2, h3 => simp [bv] at h3
    | 3, h3 => simp [bv] at h3
    | k + 4, h3 => simp at h3
def lenR (bs : List Nat) (s : Int × Bool) : (Int × Bool) × Nat := if (u64R bs s).1.2 = false ∧ (1048576 < (u64R bs s).2 ∨ bs.length - (u64R bs s).1.1.toNat < (u64R bs s).2) then (((u64R bs s).1.1, true), 0) else u64R bs s
theorem u64R_good {bs : List Nat} (hb : Byt bs) {s : Int × Bool} (h : (u64R bs s).1.2 = false) : 0 ≤ (u64R bs s).1.1 ∧ (u64R bs s).1.1 ≤ bs.length := by
  unfold u64R at h ⊢
  split
  · exact (rdN_lt bs s.1 hb).2
  · rename_i hn
    rw [if_neg hn] at h
    cases h
theorem u64R_bad {bs : List Nat} {s : Int × Bool} (h : (u64R bs s).1.2 = true) : (u64R bs s).2 = 0 := by
  unfold u64R at h ⊢
  split
  · rename_i hn
    rw [if_pos hn] at h
    cases h
  · rfl
set_option maxRecDepth 100000 in
set_option maxHeartbeats 1000000 in
theorem pr_len (g : Nat) (A : Option Addr) (n cap : Nat) (bs : List Nat) (s : Int × Bool) (x : Nat) (w : World) (hP : Hid (PF g A n cap bs s w)) (hO : Ov n cap bs) (hx : x < 9223372036854775808) :
    Calls Tryz.prog 105 #[.pointer (some ⟨g, 0, none⟩), .int .i64 (x : Int)] w (RetF (lenR bs s).1 (.int .i64 ((lenR bs s).2 : Int)) g A n cap bs w) := by
  have HR := Lib.hid (show lenR bs s = if (u64R bs s).1.2 = false ∧ (1048576 < (u64R bs s).2 ∨ bs.length - (u64R bs s).1.1.toNat < (u64R bs s).2) then (((u64R bs s).1.1, true), 0) else u64R bs s from rfl)
  have hlt := u64R_lt bs hO.byt s
  have hgd := u64R_good hO.byt (s := s)
  have hbd := u64R_bad (bs := bs) (s := s)
  have HRE := Lib.hid hO.reach
  rw [hO.len] at HR hgd
  have e0 : IntKind.u64.wrap (x : Int) = (x : Int) := by rw [IntKind.wrap_u64]; omega
  have HC := Lib.hid (pr_u64 g A n cap bs s x w hP hO)
  generalize lenR bs s = R at *
  generalize u64R bs s = r at *
  obtain ⟨⟨p, bad⟩, y⟩ := r
  simp only at HC HR hlt hgd hbd
  cases bad with
  | true =>
    obtain rfl := hbd rfl
    rw [if_neg (by simp)] at HR
    clear hgd hlt hbd hP
    have d1 : decide ((0 : Int) > 1048576) = false := rfl
    obtain ⟨z, hz⟩ : ∃ z, IntKind.i64.wrap ((n : Int) - p) = z := ⟨_, rfl⟩
    obtain ⟨z2, hz2⟩ : ∃ z2, IntKind.u64.wrap z = z2 := ⟨_, rfl⟩
    have d2 : decide (z2 < 0) = false := decide_eq_false (by rw [← hz2, IntKind.wrap_u64]; omega)
    have d3 : decide ((0 : Int) > z2) = false := d2
    have d5 : ¬ z2 < 0 := of_decide_eq_false d2
    have e4 : IntKind.i64.wrap 0 = 0 := by decide
    go_enter Tryz.func105, Tryz.ntmps105
    go_wp2_with fail
    refine HC.out.mono ?_
    rintro e w1 ⟨rfl, hp, hk⟩
    have HK := Lib.hid hk
    have HP1 := Lib.hid hp
    clear hk
    have c0 := hp.blk.cell 0
    have c1 := hp.blk.cell 1
    have c2 := hp.blk.cell 2
    clear hp
    go_wp2
    go_region
    go_wp2
    go_ret
    rw [HR.out]
    exact ⟨rfl, HP1.out.drew, HK.out.trans keep_drew⟩
  | false =>
    obtain ⟨h2, h3⟩ := hgd rfl
    obtain ⟨p, rfl⟩ := Int.eq_ofNat_of_zero_le h2
    have hre := HRE.out
    have e1 : IntKind.i64.wrap ((n : Int) - (p : Int)) = ((n - p : Nat) : Int) := by rw [IntKind.wrap_i64]; omega
    have e2 : IntKind.u64.wrap ((n - p : Nat) : Int) = ((n - p : Nat) : Int) := by rw [IntKind.wrap_u64]; omega
    have e3 : IntKind.u64.wrap ((n : Int) - (p : Int)) = ((n - p : Nat) : Int) := by rw [IntKind.wrap_u64]; omega
    rw [show ((p : Int)).toNat = p from rfl] at HR
    obtain ⟨d, hd⟩ : ∃ d, n - p = d := ⟨_, rfl⟩
    rw [hd] at e1 e2 e3 HR
    clear hd h2 h3 hgd hbd hP hre
    by_cases hc : 1048576 < y ∨ d < y
    · rw [if_pos ⟨rfl, hc⟩] at HR
      go_enter Tryz.func105, Tryz.ntmps105
      go_wp2_with fail
      refine HC.out.mono ?_
      rintro e w1 ⟨rfl, hp, hk⟩
      have HK := Lib.hid hk
      have HS := Lib.hid hp.drew.spoil
      clear hk
      have c0 := hp.blk.cell 0
      have c1 := hp.blk.cell 1
      have c2 := hp.blk.cell 2
      have c3 := hp.blk.cell 3
      have fz := hp.blk.frozen
      clear hp
      by_cases h1 : 1048576 < y
      · have d1 : decide ((y : Int) > 1048576) = true := decide_eq_true (by omega)
        have d1' : decide (1048576 < y) = true := decide_eq_true h1
        clear hc h1
        go_wp2
        go_region
        go_wp2
        go_ret
        rw [HR.out]
        exact ⟨rfl, HS.out.1, (HK.out.trans keep_drew).trans HS.out.2⟩
      · have d1 : decide ((y : Int) > 1048576) = false := decide_eq_false (by omega)
        have d1' : decide (1048576 < y) = false := decide_eq_false h1
        have d2 : decide ((y : Int) > (d : Int)) = true := decide_eq_true (by omega)
        have d2' : decide (d < y) = true := decide_eq_true (by omega)
        clear hc h1
        go_wp2
        go_region
        go_wp2
        go_ret
        rw [HR.out]
        exact ⟨rfl, HS.out.1, (HK.out.trans keep_drew).trans HS.out.2⟩
    · rw [if_neg (fun h => hc h.2)] at HR
      have d1 : decide ((y : Int) > 1048576) = false := decide_eq_false (by omega)
      have d1' : decide (1048576 < y) = false := decide_eq_false (by omega)
      have d2 : decide ((y : Int) > (d : Int)) = false := decide_eq_false (by omega)
      have d2' : decide (d < y) = false := decide_eq_false (by omega)
      have e4 : IntKind.i64.wrap (y : Int) = (y : Int) := by rw [IntKind.wrap_i64]; omega
      clear hc
      go_enter Tryz.func105, Tryz.ntmps105
      go_wp2_with fail
      refine HC.out.mono ?_
      rintro e w1 ⟨rfl, hp, hk⟩
      have HK := Lib.hid hk
      have HP1 := Lib.hid hp
      clear hk
      have c0 := hp.blk.cell 0
      have c1 := hp.blk.cell 1
      have c2 := hp.blk.cell 2
      clear hp
      go_wp2
      go_region
      go_wp2
      go_ret
      rw [HR.out]
      exact ⟨rfl, HP1.out.drew, HK.out.trans keep_drew⟩
def bytesR (bs : List Nat) (s : Int × Bool) : (Int × Bool) × List Nat := if s.2 = false ∧ (rdB bs s.1 1048576).2.2 = 0 then (((rdB bs s.1 1048576).2.1, false), (rdB bs s.1 1048576).1) else ((s.1, true), [])
def RetFB (r : (Int × Bool) × List Nat) (g : Nat) (A : Option Addr) (n cap : Nat) (bs : List Nat) (w : World) (e : Ending) (w' : World) : Prop :=
  ∃ A1 n1 cap1, e = .returned (.slice A1 n1 cap1) ∧ Reads w' w'.heap.size 1 A1 n1 (r.2.map bv) ∧ n1 ≤ cap1 ∧ cap1 ≤ maxLen ∧ PF g A n cap bs r.1 w' ∧ Keep (Not g) w w'
set_option maxRecDepth 100000 in
set_option maxHeartbeats 1000000 in
theorem pr_bytes (g : Nat) (A : Option Addr) (n cap : Nat) (bs : List Nat) (s : Int × Bool) (X : Option Addr) (xn xc : Nat) (w : World) (hP : Hid (PF g A n cap bs s w)) (hO : Ov n cap bs) :
    Calls Tryz.prog 113 #[.pointer (some ⟨g, 0, none⟩), .slice X xn xc] w (RetFB (bytesR bs s) g A n cap bs w) := by
  obtain ⟨p, bad⟩ := s
  have c0 := hP.out.blk.cell 0
  have c1 := hP.out.blk.cell 1
  have c2 := hP.out.blk.cell 2
  have HN := Lib.hid (rbytes_any A cap n p bs w.drew hO.byt hO.len hP.out.drew.rd hO.le hO.mx hO.reach)
  have HR := Lib.hid (show bytesR bs (p, bad) = if bad = false ∧ (rdB bs p 1048576).2.2 = 0 then (((rdB bs p 1048576).2.1, false), (rdB bs p 1048576).1) else ((p, true), []) from rfl)
  generalize bytesR bs (p, bad) = R at *
  generalize rdB bs p 1048576 = r at *
  obtain ⟨v, q, er⟩ := r
  simp only at HN HR c0 c1 c2
  cases bad with
  | true =>
    rw [if_neg (by simp)] at HR
    go_enter Tryz.func113, Tryz.ntmps113
    go_wp2
    go_region_held3 (fun w' => w'.cell? ⟨g, 0, none⟩ = some (.slice A n cap) ∧ w'.cell? ⟨g, 1, none⟩ = some (.int .i64 p)) (first | exact ⟨c0, c1⟩ | exact ⟨d0, d1⟩ | fail) (first
      | (go_at_call 118; refine HN.out.mono ?_; rintro e w1 ⟨A1, n1, cap1, rfl, r1, u1, u2, hb⟩; have HP1 := Lib.hid (hP.out.drew.below hb); have d0 := HP1.out.blk.cell 0; have d1 := HP1.out.blk.cell 1; have d3 := HP1.out.blk.cell 3; have fz := HP1.out.blk.frozen; have HK1 := Lib.hid (keep_drew.trans (Keep.below (H := Not g) hb) : Keep (Not g) w w1); clear r1 hb u1 u2))
    have HS := Lib.hid HP1.out.spoil
    go_wp2
    go_ret
    rw [HR.out]
    exact ⟨none, 0, 0, rfl, Reads.none_, Nat.le_refl _, by unfold maxLen; omega, HS.out.1, HK1.out.trans HS.out.2⟩
  | false =>
  by_cases he : er = 0
  · subst he
    rw [if_pos ⟨rfl, rfl⟩] at HR
    go_enter Tryz.func113, Tryz.ntmps113
    go_wp2
    go_region_held3 (fun w' => w'.cell? ⟨g, 0, none⟩ = some (.slice A n cap) ∧ w'.cell? ⟨g, 1, none⟩ = some (.int .i64 p)) (first | exact ⟨c0, c1⟩ | exact ⟨d0, d1⟩ | fail) (first
      | (go_at_call 118; refine HN.out.mono ?_; rintro e w1 ⟨A1, n1, cap1, rfl, r1, u1, u2, hb⟩; have HP1 := Lib.hid (hP.out.drew.below hb); have d0 := HP1.out.blk.cell 0; have d1 := HP1.out.blk.cell 1; have d3 := HP1.out.blk.cell 3; have fz := HP1.out.blk.frozen; have HK1 := Lib.hid (keep_drew.trans (Keep.below (H := Not g) hb) : Keep (Not g) w w1); have R1 := Lib.hid r1; have HU := Lib.hid (And.intro u1 u2); clear r1 hb u1 u2))
    have HR1 := Lib.hid (HP1.out.apart R1.out)
    have HS := Lib.hid (HP1.out.put (q := q))
    go_wp2
    go_ret
    rw [HR.out]
    exact ⟨A1, n1, cap1, rfl, HS.out.2.reads R1.out HR1.out, HU.out.1, HU.out.2, HS.out.1, HK1.out.trans HS.out.2⟩
  · rw [if_neg (fun h => he h.2)] at HR
    have hne : ((er : Int) != 0) = true := by rw [bne_iff_ne]; omega
    clear he
    go_enter Tryz.func113, Tryz.ntmps113
    go_wp2
    go_region_held3 (fun w' => w'.cell? ⟨g, 0, none⟩ = some (.slice A n cap) ∧ w'.cell? ⟨g, 1, none⟩ = some (.int .i64 p)) (first | exact ⟨c0, c1⟩ | exact ⟨d0, d1⟩ | fail) (first
      | (go_at_call 118; refine HN.out.mono ?_; rintro e w1 ⟨A1, n1, cap1, rfl, r1, u1, u2, hb⟩; have HP1 := Lib.hid (hP.out.drew.below hb); have d0 := HP1.out.blk.cell 0; have d1 := HP1.out.blk.cell 1; have d3 := HP1.out.blk.cell 3; have fz := HP1.out.blk.frozen; have HK1 := Lib.hid (keep_drew.trans (Keep.below (H := Not g) hb) : Keep (Not g) w w1); clear r1 hb u1 u2))
    have HS := Lib.hid HP1.out.spoil
    go_wp2
    go_ret
    rw [HR.out]
    exact ⟨none, 0, 0, rfl, Reads.none_, Nat.le_refl _, by unfold maxLen; omega, HS.out.1, HK1.out.trans HS.out.2⟩
set_option maxRecDepth 100000 in
set_option maxHeartbeats 1000000 in
theorem pr_text (g : Nat) (A : Option Addr) (n cap : Nat) (bs : List Nat) (s : Int × Bool) (key : ByteArray) (w : World) (hP : Hid (PF g A n cap bs s w)) (hO : Ov n cap bs) :
    Calls Tryz.prog 99 #[.pointer (some ⟨g, 0, none⟩), .string key] w (RetF (bytesR bs s).1 (.string (strOf (bytesR bs s).2)) g A n cap bs w) := by
  have kc := Lib.run_convert_string_bytes (P := Tryz.prog) w 9 22 5 key Tryz.underlying9 Tryz.underlying22 Tryz.underlying5
  have hb := octs_bel w 5 key
  have HP := Lib.hid (hP.out.below hb)
  have HB := Lib.hid (Keep.below (H := Not g) hb)
  clear hb
  obtain ⟨gc, hgc⟩ : ∃ gc, grownCap w key.size 0 5 = gc := ⟨_, rfl⟩
  rw [hgc] at kc
  clear hgc
  go_enter Tryz.func99, Tryz.ntmps99
  go_wp2_with (go_at_call 113; refine (pr_bytes g A n cap bs s _ _ _ _ HP hO).mono ?_; rintro e w1 ⟨A1, n1, cap1, rfl, r1, -, -, p1, k1⟩; have P1 := Lib.hid p1; have K1 := Lib.hid k1; have kc2 := run_conv_bytes (P := Tryz.prog) (src := 22) (dst := 9) (cap := cap1) Tryz.underlying22 Tryz.underlying5 Tryz.underlying9 r1; clear p1 k1 kc r1)
  go_ret
  exact ⟨rfl, P1.out, HB.out.trans K1.out⟩
end Go.Proofs.YthgiafjiemiifaaGreat
end
