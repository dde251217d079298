/-
  wire.page, took of numbers, flags, bytes. (printed by gen_wirt1.py); THE REFERENCE'S P, READING OR WRITING: what its steps do, told once for both; THE REFERENCE'S P WHILE IT READS: its state, its numbers, flags. (printed by gen_paq2.py); THE REFERENCE'S P WHILE IT READS: lengths, bytes, texts. (joined out of WirT1, PaQ1, PaQ2, PaQ3 by shake.py)
-/
import Derived.Deep.Cut
import Derived.Test.YtijdbdenmcjmmaaGreatDoorNen03
import Derived.Test.YtijdbdenmcjmmaaGreatDoorNen12
import Derived.Test.YtijdbdenmcjmmaaGreatDoorNen05
import Derived.Test.YtijdbdenmcjmmaaGreatDoorNen06
import Derived.Test.YtijdbdenmcjmmaaGreatDoorNen07
section
namespace Go.Proofs.YtijdbdenmcjmmaaGreatDoor
open Go.RowKit OctMath
set_option linter.unusedVariables false
set_option linter.unusedSimpArgs false
theorem InB.drew {w : World} {A : Option Addr} {n cap : Nat} {bs : List Nat} (h : InB w A n cap bs) : InB w.drew A n cap bs := ⟨h.rd, h.byt, h.len, h.le, h.mx, h.reach⟩
theorem InB.keep {w w' : World} {A : Option Addr} {n cap : Nat} {bs : List Nat} (h : InB w A n cap bs) {g : Nat} (k : Keep (Not g) w w') (hne : 0 < n → ∀ ad, A = some ad → Not g ad.block) : InB w' A n cap bs := ⟨k.reads h.rd hne, h.byt, h.len, h.le, h.mx, h.reach⟩
structure PW (g : Nat) (A : Option Addr) (n cap : Nat) (bs : List Nat) (p : Nat) (w : World) : Prop where
  blk : Blk w g 69 #[.slice A n cap, .int .i64 (p : Int), .nilIface]
  inb : InB w A n cap bs
  ne : 0 < n → ∀ ad, A = some ad → Not g ad.block
  pl : p ≤ n
structure PX (g : Nat) (A : Option Addr) (n cap : Nat) (bs : List Nat) (w : World) : Prop where
  blk : ∃ p : Nat, p ≤ n ∧ Blk w g 69 #[.slice A n cap, .int .i64 (p : Int), .iface 94 (.int .i64 50)]
  inb : InB w A n cap bs
  ne : 0 < n → ∀ ad, A = some ad → Not g ad.block
theorem PW.turn {g : Nat} {A : Option Addr} {n cap p q : Nat} {bs : List Nat} {w w' : World} (h : PW g A n cap bs p w) (k : Keep (Not g) w w') (hB : Blk w' g 69 #[.slice A n cap, .int .i64 (q : Int), .nilIface]) (hq : q ≤ n) : PW g A n cap bs q w' :=
  ⟨hB, h.inb.keep k h.ne, h.ne, hq⟩
theorem PW.drew {g : Nat} {A : Option Addr} {n cap p : Nat} {bs : List Nat} {w : World} (h : PW g A n cap bs p w) : PW g A n cap bs p w.drew := ⟨h.blk, h.inb.drew, h.ne, h.pl⟩
theorem PW.below {g : Nat} {A : Option Addr} {n cap p : Nat} {bs : List Nat} {w w' : World} (h : PW g A n cap bs p w) (k : Below w.heap.size w w') : PW g A n cap bs p w' :=
  h.turn (Keep.below k) ((Keep.below (H := fun _ => True) k).blk h.blk trivial) h.pl
theorem PW.only {g : Nat} {A : Option Addr} {n cap p : Nat} {bs : List Nat} {w w' : World} {y : Nat} (h : PW g A n cap bs p w) (k : Only y w w') (hy : y ≠ g) (hne : 0 < n → ∀ ad, A = some ad → Not y ad.block) : PW g A n cap bs p w' :=
  ⟨k.blk h.blk (fun e => hy e.symm), h.inb.keep (Keep.only k (fun h => h rfl)) hne, h.ne, h.pl⟩
theorem PW.put {g : Nat} {A : Option Addr} {n cap p q : Nat} {bs : List Nat} {w : World} (h : PW g A n cap bs p w) (hq : q ≤ n) : PW g A n cap bs q (w.setCell ⟨g, 1, none⟩ (.int .i64 (q : Int))) ∧ Keep (Not g) w (w.setCell ⟨g, 1, none⟩ (.int .i64 (q : Int))) := by
  have k := Keep.set_ (Not g) w (g := g) 1 (.int .i64 (q : Int)) (fun h => h rfl)
  exact ⟨h.turn k (by have := h.blk.set_ 1 (.int .i64 (q : Int)); simpa using this) hq, k⟩
theorem PW.fail {g : Nat} {A : Option Addr} {n cap p : Nat} {bs : List Nat} {w : World} (h : PW g A n cap bs p w) : PX g A n cap bs (w.setCell ⟨g, 2, none⟩ (.iface 94 (.int .i64 50))) ∧ Keep (Not g) w (w.setCell ⟨g, 2, none⟩ (.iface 94 (.int .i64 50))) := by
  have k := Keep.set_ (Not g) w (g := g) 2 (.iface 94 (.int .i64 50)) (fun h => h rfl)
  exact ⟨⟨⟨p, h.pl, by have := h.blk.set_ 2 (.iface 94 (.int .i64 50)); simpa using this⟩, h.inb.keep k h.ne, h.ne⟩, k⟩
def RetV {α : Type} (r : Option (α × Nat)) (val : α → World → Value → Prop) (shape : Value → Prop) (n : Nat) (w : World) (e : Ending) (w' : World) : Prop := Below w.heap.size w w' ∧ match r with
  | some (x, q) => ∃ v, e = .returned (.tuple #[v, .int .i64 (q : Int), .int .i64 0]) ∧ val x w' v ∧ shape v ∧ q ≤ n
  | none => ∃ v p er, e = .returned (.tuple #[v, .int .i64 p, .int .i64 er]) ∧ er ≠ 0 ∧ shape v
def RetT {α : Type} (r : Option (α × Nat)) (val : α → World → Value → Prop) (z : Value) (g : Nat) (A : Option Addr) (n cap : Nat) (bs : List Nat) (w : World) (e : Ending) (w' : World) : Prop := Keep (Not g) w w' ∧ match r with
  | some (x, q) => ∃ v, e = .returned v ∧ val x w' v ∧ PW g A n cap bs q w'
  | none => e = .returned z ∧ PX g A n cap bs w'
theorem rv_num (A : Option Addr) (n cap : Nat) (bs : List Nat) (p : Nat) (w : World) (HI : InB w A n cap bs) : Calls Tryz.prog 20 #[.slice A n cap, .int .i64 (p : Int)] w (RetV (rNum bs p) vU64 (fun _ => True) n w) := by
  obtain ⟨h1, h2, h3⟩ := rdN_lt bs p HI.byt
  rw [HI.len] at h3
  refine (number_any A cap n p bs w HI.byt HI.len HI.rd HI.le HI.mx).mono ?_
  rintro e w' ⟨rfl, rfl⟩
  refine ⟨Below.refl _ _, ?_⟩
  unfold rNum
  by_cases he : (rdN bs p).2.2 = 0
  · rw [if_pos he, he]
    exact ⟨_, by rw [show (((rdN bs p).2.1.toNat : Nat) : Int) = (rdN bs p).2.1 from by omega]; rfl, ⟨rfl, h1⟩, trivial, by omega⟩
  · rw [if_neg he]
    exact ⟨_, _, _, rfl, by omega, trivial⟩
theorem rv_int (A : Option Addr) (n cap : Nat) (bs : List Nat) (p : Nat) (w : World) (HI : InB w A n cap bs) : Calls Tryz.prog 18 #[.slice A n cap, .int .i64 (p : Int)] w (RetV (rInt bs p) vI64 (fun _ => True) n w) := by
  obtain ⟨h1, h2, h3⟩ := rdN_lt bs p HI.byt
  rw [HI.len] at h3
  refine (int_any A cap n p bs w HI.byt HI.len HI.rd HI.le HI.mx).mono ?_
  rintro e w' ⟨rfl, rfl⟩
  refine ⟨Below.refl _ _, ?_⟩
  unfold rInt rNum
  by_cases he : (rdN bs p).2.2 = 0
  · rw [if_pos he, he]
    exact ⟨_, by rw [show (((rdN bs p).2.1.toNat : Nat) : Int) = (rdN bs p).2.1 from by omega]; rfl, ⟨rfl, unz_rng h1⟩, trivial, by omega⟩
  · rw [if_neg he]
    exact ⟨_, _, _, rfl, by omega, trivial⟩
theorem rv_flag (A : Option Addr) (n cap : Nat) (bs : List Nat) (p : Nat) (w : World) (HI : InB w A n cap bs) : Calls Tryz.prog 22 #[.slice A n cap, .int .i64 (p : Int)] w (RetV (rFlag bs p) vBool (fun _ => True) n w) := by
  have hmx := HI.mx
  have hle := HI.le
  refine (flag_any A cap n p bs w HI.byt HI.len HI.rd (by omega)).mono ?_
  rintro e w' ⟨rfl, rfl⟩
  refine ⟨Below.refl _ _, ?_⟩
  have hn := HI.len
  unfold rFlag rdFl
  by_cases h1 : p < bs.length
  · by_cases h2 : bs.getD p 0 ≤ 1
    · rw [if_pos h1, if_pos h2, if_pos ⟨h1, h2⟩]
      exact ⟨_, rfl, rfl, trivial, by omega⟩
    · rw [if_pos h1, if_neg h2, if_neg (fun h => h2 h.2)]
      exact ⟨_, _, _, rfl, by decide, trivial⟩
  · rw [if_neg h1, if_neg (fun h => h1 h.1)]
    by_cases h3 : p = bs.length
    · rw [if_pos h3]
      exact ⟨_, _, _, rfl, by decide, trivial⟩
    · rw [if_neg h3]
      exact ⟨_, _, _, rfl, by decide, trivial⟩
def vByt (xs : List Nat) (w : World) (v : Value) : Prop := ∃ A c, v = .slice A xs.length c ∧ Reads w w.heap.size 1 A xs.length (xs.map bv) ∧ xs.length ≤ c ∧ c ≤ maxLen ∧ Byt xs ∧ xs.length ≤ 1048576
theorem u8_apart {w : World} {g : Nat} {t : TypeId} {cs : Array Value} (hB : Blk w g t cs) (hcs : (cs.toList.all fun v => match v with | .int .u8 _ => false | _ => true) = true) {B m : Nat} {A1 : Option Addr} {xs : List Nat} (hr : Reads w B 1 A1 m (xs.map bv)) : 0 < m → ∀ ad, A1 = some ad → Not g ad.block := by
  intro hm ad ha hg
  obtain ⟨ad', u, e1, hB', h2, h3⟩ := hr.at_ hm
  rw [ha] at e1
  injection e1 with e1
  rw [← e1] at h3
  rw [show ad.add 0 = ad from rfl] at h3
  rw [List.getElem?_map] at h2
  obtain ⟨x, -, rfl⟩ := Option.map_eq_some_iff.1 h2
  have hb : w.heap[ad.block]? = some (.cells cs t) := by rw [hg]; exact hB
  unfold World.cell? at h3
  rw [hb] at h3
  simp only at h3
  split at h3
  · rename_i hs
    cases h3
  · rename_i hs
    have hmem : bv x ∈ cs.toList := by
      have := Array.getElem?_eq_some_iff.1 h3
      obtain ⟨hl, he⟩ := this
      rw [← he]
      simp
    have := List.all_eq_true.1 hcs _ hmem
    simp [bv] at this
theorem PW.apart {g : Nat} {A : Option Addr} {n cap p : Nat} {bs : List Nat} {w : World} (h : PW g A n cap bs p w) {B m : Nat} {A1 : Option Addr} {xs : List Nat} (hr : Reads w B 1 A1 m (xs.map bv)) : 0 < m → ∀ ad, A1 = some ad → Not g ad.block :=
  u8_apart h.blk (by rfl) hr
theorem rv_bytes (A : Option Addr) (n cap : Nat) (bs : List Nat) (p : Nat) (w : World) (HI : InB w A n cap bs) : Calls Tryz.prog 49 #[.slice A n cap, .int .i64 (p : Int)] w (RetV (rText bs p) vByt (fun _ => True) n w) := by
  have HN := Lh (bytes_any A cap n p 1048576 bs w HI.byt HI.len HI.rd HI.le HI.mx HI.reach (by omega))
  have HR := Lh (show rText bs p = if (rdB bs p 1048576).2.2 = 0 then some ((rdB bs p 1048576).1, (rdB bs p 1048576).2.1.toNat) else none from rfl)
  have HG := Lh (rdB_rng bs p 1048576 HI.byt)
  rw [HI.len] at HG
  generalize rText bs p = r0 at *
  generalize rdB bs p 1048576 = r at *
  obtain ⟨v, q, er⟩ := r
  go_enter Tryz.func49, Tryz.ntmps49
  go_wp2_with (go_at_call 50; refine HN.out.mono ?_; rintro e w1 ⟨A1, n1, cap1, rfl, r1, k1, k2, hb⟩; have H1 := Lh (And.intro r1 (And.intro k1 (And.intro k2 hb))); clear r1 k1 k2 hb)
  go_ret3
  obtain ⟨r1, k1, k2, hb⟩ := H1.out
  refine ⟨hb, ?_⟩
  rw [HR.out]
  by_cases he : er = 0
  · subst he
    obtain ⟨g1, g2, g3, g4⟩ := HG.out rfl
    rw [if_pos rfl]
    have hl : v.length = n1 := by simpa using r1.1
    subst hl
    exact ⟨_, by rw [show ((q.toNat : Nat) : Int) = q from by omega]; rfl, ⟨A1, cap1, rfl, r1, k1, k2, g3, g4⟩, trivial, by omega⟩
  · rw [if_neg he]
    exact ⟨_, _, _, rfl, by omega, trivial⟩
theorem vByt.keep {g : Nat} {A : Option Addr} {n cap p : Nat} {bs : List Nat} {w w' : World} (hP : PW g A n cap bs p w) {x : List Nat} {v : Value} (h : vByt x w v) (k : Keep (Not g) w w') : vByt x w' v := by
  obtain ⟨A1, c, e, r, h⟩ := h
  exact ⟨A1, c, e, k.reads r (hP.apart r), h⟩

set_option maxRecDepth 100000 in
set_option maxHeartbeats 2000000 in
theorem wt_int (g : Nat) (A : Option Addr) (n cap : Nat) (bs : List Nat) (p : Nat) (w : World) (hP : Hid (PW g A n cap bs p w)) :
    Calls Tryz.prog 17 #[.pointer (some ⟨g, 0, none⟩), .func (.func 18) #[] #[]] w (RetT (rInt bs p) vI64 (.int .i64 0) g A n cap bs w) := by
  have c0 := hP.out.blk.cell 0
  have c1 := hP.out.blk.cell 1
  have c2 := hP.out.blk.cell 2
  have HC := Lh (rv_int A n cap bs p w.drew hP.out.drew.inb)
  generalize rInt bs p = r at *
  cases r with
  | none =>
    go_enter Tryz.func17, Tryz.ntmps17
    go_upto_region 4 with fail
    go_region_held3 (fun w' => w'.cell? ⟨g, 0, none⟩ = some (.slice A n cap) ∧ w'.cell? ⟨g, 1, none⟩ = some (.int .i64 (p : Int))) (first | exact ⟨c0, c1⟩ | exact ⟨d0, d1⟩ | fail) (first
      | (go_at_call 18; refine HC.out.mono ?_; rintro e w1 ⟨hb, v, q, er, rfl, her, hs⟩; have HP1 := Lh (hP.out.drew.below hb); have d0 := HP1.out.blk.cell 0; have d1 := HP1.out.blk.cell 1; have d2 := HP1.out.blk.cell 2; have f2 := HP1.out.blk.frozen 2; have HK1 := Lh (keep_drew.trans (Keep.below (H := Not g) hb) : Keep (Not g) w w1); have de : (er != 0) = true := bne_iff_ne.2 her; clear hb hs her))
    have HF := Lh HP1.out.fail
    go_wp2
    go_ret
    exact ⟨HK1.out.trans HF.out.2, rfl, HF.out.1⟩
  | some x =>
    obtain ⟨x, q⟩ := x
    go_enter Tryz.func17, Tryz.ntmps17
    go_upto_region 4 with fail
    go_region_held3 (fun w' => w'.cell? ⟨g, 0, none⟩ = some (.slice A n cap) ∧ w'.cell? ⟨g, 1, none⟩ = some (.int .i64 (p : Int))) (first | exact ⟨c0, c1⟩ | exact ⟨d0, d1⟩ | fail) (first
      | (go_at_call 18; refine HC.out.mono ?_; rintro e w1 ⟨hb, v, rfl, hv, -, hq⟩; have HP1 := Lh (hP.out.drew.below hb); have d0 := HP1.out.blk.cell 0; have d1 := HP1.out.blk.cell 1; have f1 := HP1.out.blk.frozen 1; have HK1 := Lh (keep_drew.trans (Keep.below (H := Not g) hb) : Keep (Not g) w w1); have HV := Lh (And.intro hv hq); clear hb hv hq))
    have HF := Lh (HP1.out.put (q := q) HV.out.2)
    go_wp2
    go_ret
    exact ⟨HK1.out.trans HF.out.2, _, rfl, HV.out.1, HF.out.1⟩
set_option maxRecDepth 100000 in
set_option maxHeartbeats 2000000 in
theorem wt_num (g : Nat) (A : Option Addr) (n cap : Nat) (bs : List Nat) (p : Nat) (w : World) (hP : Hid (PW g A n cap bs p w)) :
    Calls Tryz.prog 19 #[.pointer (some ⟨g, 0, none⟩), .func (.func 20) #[] #[]] w (RetT (rNum bs p) vU64 (.int .u64 0) g A n cap bs w) := by
  have c0 := hP.out.blk.cell 0
  have c1 := hP.out.blk.cell 1
  have c2 := hP.out.blk.cell 2
  have HC := Lh (rv_num A n cap bs p w.drew hP.out.drew.inb)
  generalize rNum bs p = r at *
  cases r with
  | none =>
    go_enter Tryz.func19, Tryz.ntmps19
    go_upto_region 4 with fail
    go_region_held3 (fun w' => w'.cell? ⟨g, 0, none⟩ = some (.slice A n cap) ∧ w'.cell? ⟨g, 1, none⟩ = some (.int .i64 (p : Int))) (first | exact ⟨c0, c1⟩ | exact ⟨d0, d1⟩ | fail) (first
      | (go_at_call 20; refine HC.out.mono ?_; rintro e w1 ⟨hb, v, q, er, rfl, her, hs⟩; have HP1 := Lh (hP.out.drew.below hb); have d0 := HP1.out.blk.cell 0; have d1 := HP1.out.blk.cell 1; have d2 := HP1.out.blk.cell 2; have f2 := HP1.out.blk.frozen 2; have HK1 := Lh (keep_drew.trans (Keep.below (H := Not g) hb) : Keep (Not g) w w1); have de : (er != 0) = true := bne_iff_ne.2 her; clear hb hs her))
    have HF := Lh HP1.out.fail
    go_wp2
    go_ret
    exact ⟨HK1.out.trans HF.out.2, rfl, HF.out.1⟩
  | some x =>
    obtain ⟨x, q⟩ := x
    go_enter Tryz.func19, Tryz.ntmps19
    go_upto_region 4 with fail
    go_region_held3 (fun w' => w'.cell? ⟨g, 0, none⟩ = some (.slice A n cap) ∧ w'.cell? ⟨g, 1, none⟩ = some (.int .i64 (p : Int))) (first | exact ⟨c0, c1⟩ | exact ⟨d0, d1⟩ | fail) (first
      | (go_at_call 20; refine HC.out.mono ?_; rintro e w1 ⟨hb, v, rfl, hv, -, hq⟩; have HP1 := Lh (hP.out.drew.below hb); have d0 := HP1.out.blk.cell 0; have d1 := HP1.out.blk.cell 1; have f1 := HP1.out.blk.frozen 1; have HK1 := Lh (keep_drew.trans (Keep.below (H := Not g) hb) : Keep (Not g) w w1); have HV := Lh (And.intro hv hq); clear hb hv hq))
    have HF := Lh (HP1.out.put (q := q) HV.out.2)
    go_wp2
    go_ret
    exact ⟨HK1.out.trans HF.out.2, _, rfl, HV.out.1, HF.out.1⟩
set_option maxRecDepth 100000 in
set_option maxHeartbeats 2000000 in
theorem wt_flag (g : Nat) (A : Option Addr) (n cap : Nat) (bs : List Nat) (p : Nat) (w : World) (hP : Hid (PW g A n cap bs p w)) :
    Calls Tryz.prog 21 #[.pointer (some ⟨g, 0, none⟩), .func (.func 22) #[] #[]] w (RetT (rFlag bs p) vBool (.bool false) g A n cap bs w) := by
  have c0 := hP.out.blk.cell 0
  have c1 := hP.out.blk.cell 1
  have c2 := hP.out.blk.cell 2
  have HC := Lh (rv_flag A n cap bs p w.drew hP.out.drew.inb)
  generalize rFlag bs p = r at *
  cases r with
  | none =>
    go_enter Tryz.func21, Tryz.ntmps21
    go_upto_region 4 with fail
    go_region_held3 (fun w' => w'.cell? ⟨g, 0, none⟩ = some (.slice A n cap) ∧ w'.cell? ⟨g, 1, none⟩ = some (.int .i64 (p : Int))) (first | exact ⟨c0, c1⟩ | exact ⟨d0, d1⟩ | fail) (first
      | (go_at_call 22; refine HC.out.mono ?_; rintro e w1 ⟨hb, v, q, er, rfl, her, hs⟩; have HP1 := Lh (hP.out.drew.below hb); have d0 := HP1.out.blk.cell 0; have d1 := HP1.out.blk.cell 1; have d2 := HP1.out.blk.cell 2; have f2 := HP1.out.blk.frozen 2; have HK1 := Lh (keep_drew.trans (Keep.below (H := Not g) hb) : Keep (Not g) w w1); have de : (er != 0) = true := bne_iff_ne.2 her; clear hb hs her))
    have HF := Lh HP1.out.fail
    go_wp2
    go_ret
    exact ⟨HK1.out.trans HF.out.2, rfl, HF.out.1⟩
  | some x =>
    obtain ⟨x, q⟩ := x
    go_enter Tryz.func21, Tryz.ntmps21
    go_upto_region 4 with fail
    go_region_held3 (fun w' => w'.cell? ⟨g, 0, none⟩ = some (.slice A n cap) ∧ w'.cell? ⟨g, 1, none⟩ = some (.int .i64 (p : Int))) (first | exact ⟨c0, c1⟩ | exact ⟨d0, d1⟩ | fail) (first
      | (go_at_call 22; refine HC.out.mono ?_; rintro e w1 ⟨hb, v, rfl, hv, -, hq⟩; have HP1 := Lh (hP.out.drew.below hb); have d0 := HP1.out.blk.cell 0; have d1 := HP1.out.blk.cell 1; have f1 := HP1.out.blk.frozen 1; have HK1 := Lh (keep_drew.trans (Keep.below (H := Not g) hb) : Keep (Not g) w w1); have HV := Lh (And.intro hv hq); clear hb hv hq))
    have HF := Lh (HP1.out.put (q := q) HV.out.2)
    go_wp2
    go_ret
    exact ⟨HK1.out.trans HF.out.2, _, rfl, HV.out.1, HF.out.1⟩
set_option maxRecDepth 100000 in
set_option maxHeartbeats 2000000 in
theorem wt_bytes (g : Nat) (A : Option Addr) (n cap : Nat) (bs : List Nat) (p : Nat) (w : World) (hP : Hid (PW g A n cap bs p w)) :
    Calls Tryz.prog 48 #[.pointer (some ⟨g, 0, none⟩), .func (.func 49) #[] #[]] w (RetT (rText bs p) vByt (.slice none 0 0) g A n cap bs w) := by
  have c0 := hP.out.blk.cell 0
  have c1 := hP.out.blk.cell 1
  have c2 := hP.out.blk.cell 2
  have HC := Lh (rv_bytes A n cap bs p w.drew hP.out.drew.inb)
  generalize rText bs p = r at *
  cases r with
  | none =>
    go_enter Tryz.func48, Tryz.ntmps48
    go_upto_region 4 with fail
    go_region_held3 (fun w' => w'.cell? ⟨g, 0, none⟩ = some (.slice A n cap) ∧ w'.cell? ⟨g, 1, none⟩ = some (.int .i64 (p : Int))) (first | exact ⟨c0, c1⟩ | exact ⟨d0, d1⟩ | fail) (first
      | (go_at_call 49; refine HC.out.mono ?_; rintro e w1 ⟨hb, v, q, er, rfl, her, hs⟩; have HP1 := Lh (hP.out.drew.below hb); have d0 := HP1.out.blk.cell 0; have d1 := HP1.out.blk.cell 1; have d2 := HP1.out.blk.cell 2; have f2 := HP1.out.blk.frozen 2; have HK1 := Lh (keep_drew.trans (Keep.below (H := Not g) hb) : Keep (Not g) w w1); have de : (er != 0) = true := bne_iff_ne.2 her; clear hb hs her))
    have HF := Lh HP1.out.fail
    go_wp2
    go_ret
    exact ⟨HK1.out.trans HF.out.2, rfl, HF.out.1⟩
  | some x =>
    obtain ⟨x, q⟩ := x
    go_enter Tryz.func48, Tryz.ntmps48
    go_upto_region 4 with fail
    go_region_held3 (fun w' => w'.cell? ⟨g, 0, none⟩ = some (.slice A n cap) ∧ w'.cell? ⟨g, 1, none⟩ = some (.int .i64 (p : Int))) (first | exact ⟨c0, c1⟩ | exact ⟨d0, d1⟩ | fail) (first
      | (go_at_call 49; refine HC.out.mono ?_; rintro e w1 ⟨hb, v, rfl, hv, -, hq⟩; have HP1 := Lh (hP.out.drew.below hb); have d0 := HP1.out.blk.cell 0; have d1 := HP1.out.blk.cell 1; have f1 := HP1.out.blk.frozen 1; have HK1 := Lh (keep_drew.trans (Keep.below (H := Not g) hb) : Keep (Not g) w w1); have HV := Lh (And.intro hv hq); clear hb hv hq))
    have HF := Lh (HP1.out.put (q := q) HV.out.2)
    go_wp2
    go_ret
    exact ⟨HK1.out.trans HF.out.2, _, rfl, (vByt.keep HP1.out HV.out.1 HF.out.2), HF.out.1⟩
end Go.Proofs.YtijdbdenmcjmmaaGreatDoor
end
section
namespace Go.Proofs.YtijdbdenmcjmmaaGreatDoor
open Go.RowKit OctMath
set_option linter.unusedVariables false
structure Md (σ : Type) where
  g : Nat
  write : Bool
  bad : σ → Bool
  fit : σ → Nat → Prop
  St : σ → World → Prop
  dep : World → Nat → Prop
  wr : World → Nat → Prop
  u64 : σ → Nat → σ × Nat
  u32 : σ → Nat → σ × Nat
  int : σ → Int → σ × Int
  flag : σ → Bool → σ × Bool
  text : σ → List Nat → σ × List Nat
  len : σ → Nat → σ × Nat
variable {σ : Type}
structure Stp (M : Md σ) (w w' : World) : Prop where
  os : w'.os = w.os
  tape : w'.tape = w.tape
  output : w'.output = w.output
  size : w.heap.size ≤ w'.heap.size
  block : ∀ k, k < w.heap.size → ¬ M.wr w k → w'.heap[k]? = w.heap[k]?
  dep : ∀ k, k < w.heap.size → M.dep w' k → M.dep w k
  wr : ∀ k, k < w.heap.size → M.wr w' k → M.wr w k
theorem Stp.refl (M : Md σ) (w : World) : Stp M w w := ⟨rfl, rfl, rfl, Nat.le_refl _, fun _ _ _ => rfl, fun _ _ h => h, fun _ _ h => h⟩
theorem Stp.trans {M : Md σ} {w w' w'' : World} (h : Stp M w w') (k : Stp M w' w'') : Stp M w w'' :=
  ⟨k.os.trans h.os, k.tape.trans h.tape, k.output.trans h.output, Nat.le_trans h.size k.size, fun i hi hn => (k.block i (Nat.lt_of_lt_of_le hi h.size) (fun e => hn (h.wr i hi e))).trans (h.block i hi hn),
    fun i hi e => h.dep i hi (k.dep i (Nat.lt_of_lt_of_le hi h.size) e), fun i hi e => h.wr i hi (k.wr i (Nat.lt_of_lt_of_le hi h.size) e)⟩
structure Free (M : Md σ) (k : Nat) (w : World) : Prop where
  lt : k < w.heap.size
  dep : ¬ M.dep w k
  wr : ¬ M.wr w k
theorem Free.step {M : Md σ} {k : Nat} {w w' : World} (h : Free M k w) (s : Stp M w w') : Free M k w' := ⟨Nat.lt_of_lt_of_le h.lt s.size, fun e => h.dep (s.dep k h.lt e), fun e => h.wr (s.wr k h.lt e)⟩
def RetP (M : Md σ) (s' : σ) (v : Value) (w : World) (e : Ending) (w' : World) : Prop := e = .returned v ∧ M.St s' w' ∧ Stp M w w'
def Dq (M : Md σ) (w w' : World) : Prop := (∀ k, M.dep w' k ↔ M.dep w k) ∧ ∀ k, M.wr w' k ↔ M.wr w k
structure MdOk (M : Md σ) : Prop where
  gwr : ∀ {s : σ} {w : World}, M.St s w → M.wr w M.g
  glt : ∀ {s : σ} {w : World}, M.St s w → M.g < w.heap.size
  cwrite : ∀ {s : σ} {w : World}, M.St s w → w.cell? ⟨M.g, 2, none⟩ = some (.bool M.write)
  cbad : ∀ {s : σ} {w : World}, M.St s w → w.cell? ⟨M.g, 3, none⟩ = some (.bool (M.bad s))
  grown : ∀ {s : σ} {w w' : World} {row : Option Nat}, M.St s w → w.grownBy w' row → (∀ k, row = some k → Free M k w) → M.St s w' ∧ Dq M w w'
  fresh : ∀ {s : σ} {w : World}, M.St s w → ∀ k, M.dep w k ∨ M.wr w k → k < w.heap.size
  mono : ∀ {s : σ} {a b : Nat}, M.fit s a → b ≤ a → M.fit s b
  f_u64 : ∀ {s : σ} {a x : Nat}, M.fit s (a + 10) → x < 18446744073709551616 → M.fit (M.u64 s x).1 a
  f_u32 : ∀ {s : σ} {a x : Nat}, M.fit s (a + 10) → x < 4294967296 → M.fit (M.u32 s x).1 a
  f_int : ∀ {s : σ} {a : Nat} {x : Int}, M.fit s (a + 10) → I64 x → M.fit (M.int s x).1 a
  f_flag : ∀ {s : σ} {a : Nat} {x : Bool}, M.fit s (a + 10) → M.fit (M.flag s x).1 a
  f_text : ∀ {s : σ} {a : Nat} {x : List Nat}, M.fit s (a + 1048586) → x.length ≤ 1048576 → M.fit (M.text s x).1 a
  f_len : ∀ {s : σ} {a x : Nat}, M.fit s (a + 10) → x < 9223372036854775808 → M.fit (M.len s x).1 a
  r_u64 : ∀ {s : σ} {x : Nat}, x < 18446744073709551616 → (M.u64 s x).2 < 18446744073709551616
  r_u32 : ∀ {s : σ} {x : Nat}, x < 4294967296 → (M.u32 s x).2 < 4294967296
  r_int : ∀ {s : σ} {x : Int}, I64 x → I64 (M.int s x).2
  r_text : ∀ {s : σ} {x : List Nat}, ((∀ y ∈ x, y < 256) ∧ x.length ≤ 1048576) → ((∀ y ∈ (M.text s x).2, y < 256) ∧ (M.text s x).2.length ≤ 1048576)
  r_len : ∀ {s : σ} {x : Nat}, x ≤ 1048576 → (M.len s x).2 ≤ 1048576
  wlen : M.write = true → ∀ (s : σ) (x : Nat), (M.len s x).2 = x
  c_u64 : ∀ (s : σ) (x : Nat) (w : World), Hid (M.St s w) → x < 18446744073709551616 → M.fit s 10 → Calls Tryz.prog 60 #[.pointer (some ⟨M.g, 0, none⟩), .int .u64 (x : Int)] w (RetP M (M.u64 s x).1 (.int .u64 ((M.u64 s x).2 : Int)) w)
  c_u32 : ∀ (s : σ) (x : Nat) (w : World), Hid (M.St s w) → x < 4294967296 → M.fit s 10 → Calls Tryz.prog 95 #[.pointer (some ⟨M.g, 0, none⟩), .int .u32 (x : Int)] w (RetP M (M.u32 s x).1 (.int .u32 ((M.u32 s x).2 : Int)) w)
  c_int : ∀ (s : σ) (x : Int) (w : World), Hid (M.St s w) → I64 x → M.fit s 10 → Calls Tryz.prog 59 #[.pointer (some ⟨M.g, 0, none⟩), .int .i64 x] w (RetP M (M.int s x).1 (.int .i64 (M.int s x).2) w)
  c_flag : ∀ (s : σ) (x : Bool) (w : World), Hid (M.St s w) → M.fit s 10 → Calls Tryz.prog 61 #[.pointer (some ⟨M.g, 0, none⟩), .bool x] w (RetP M (M.flag s x).1 (.bool (M.flag s x).2) w)
  c_text : ∀ (s : σ) (x : List Nat) (w : World), Hid (M.St s w) → ((∀ y ∈ x, y < 256) ∧ x.length ≤ 1048576) → M.fit s 1048586 → Calls Tryz.prog 66 #[.pointer (some ⟨M.g, 0, none⟩), .string (strOf x)] w (RetP M (M.text s x).1 (.string (strOf (M.text s x).2)) w)
  c_len : ∀ (s : σ) (x : Nat) (w : World), Hid (M.St s w) → x < 9223372036854775808 → M.fit s 10 → Calls Tryz.prog 67 #[.pointer (some ⟨M.g, 0, none⟩), .int .i64 (x : Int)] w (RetP M (M.len s x).1 (.int .i64 ((M.len s x).2 : Int)) w)
structure Wk (M : Md σ) (w0 : World) (s : σ) (w : World) : Prop where
  st : M.St s w
  stp : Stp M w0 w
theorem Wk.start {M : Md σ} {s : σ} {w : World} (h : M.St s w) : Wk M w s w := ⟨h, Stp.refl M w⟩
theorem Wk.call {M : Md σ} {w0 w w' : World} {s s' : σ} (h : Wk M w0 s w) (h1 : M.St s' w') (h2 : Stp M w w') : Wk M w0 s' w' := ⟨h1, h.stp.trans h2⟩
theorem Wk.grown {M : Md σ} (hM : MdOk M) {w0 w w' : World} {s : σ} {row : Option Nat} (h : Wk M w0 s w) (hg : w.grownBy w' row) (hr : ∀ k, row = some k → Free M k w ∧ w0.heap.size ≤ k) : Wk M w0 s w' := by
  obtain ⟨a, b, c⟩ := hM.grown h.st hg (fun k e => (hr k e).1)
  exact ⟨a, ⟨hg.os.trans h.stp.os, hg.tape.trans h.stp.tape, hg.output.trans h.stp.output, Nat.le_trans h.stp.size hg.size, fun k hk hn => (hg.block k (Nat.lt_of_lt_of_le hk h.stp.size) (fun e => by have := (hr k e.symm).2; omega)).trans (h.stp.block k hk hn),
    fun k hk e => h.stp.dep k hk ((b k).1 e), fun k hk e => h.stp.wr k hk ((c k).1 e)⟩⟩
theorem below_grown {w w' : World} (h : Below w.heap.size w w') : w.grownBy w' none := ⟨h.os, h.tape, h.output, h.size, fun k hk _ => h.block k hk⟩
theorem Wk.alloc {M : Md σ} (hM : MdOk M) {w0 w : World} {s : σ} (h : Wk M w0 s w) (o : Obj) : Wk M w0 s (w.alloc o) := h.grown hM (row := none) (below_grown ((Below.refl _ _).alloc (Nat.le_refl _) o)) (fun k e => by cases e)
theorem Wk.later {M : Md σ} (hM : MdOk M) {w0 w w' : World} {s : σ} (h : Wk M w0 s w) (hb : Below w.heap.size w w') : Wk M w0 s w' := h.grown hM (row := none) (below_grown hb) (fun k e => by cases e)
theorem Free.grown {M : Md σ} (hM : MdOk M) {w w' : World} {s : σ} {row : Option Nat} {k : Nat} (h : Free M k w) (hs : M.St s w) (hg : w.grownBy w' row) (hr : ∀ k, row = some k → Free M k w) : Free M k w' := by
  obtain ⟨a, b, c⟩ := hM.grown hs hg hr
  exact ⟨Nat.lt_of_lt_of_le h.lt hg.size, fun e => h.dep ((b k).1 e), fun e => h.wr ((c k).1 e)⟩
structure Bk (M : Md σ) (w0 : World) (b : Nat) (t : TypeId) (cs : Array Value) (w : World) : Prop where
  blk : Blk w b t cs
  free : Free M b w
  lo : w0.heap.size ≤ b
theorem Bk.call {M : Md σ} {w0 w w' : World} {b : Nat} {t : TypeId} {cs : Array Value} (h : Bk M w0 b t cs w) (s : Stp M w w') : Bk M w0 b t cs w' := ⟨(s.block b h.free.lt h.free.wr).trans h.blk, h.free.step s, h.lo⟩
theorem Bk.grown {M : Md σ} (hM : MdOk M) {w0 w w' : World} {s : σ} {b : Nat} {t : TypeId} {cs : Array Value} {row : Option Nat} (h : Bk M w0 b t cs w) (hs : M.St s w) (hg : w.grownBy w' row) (hr : ∀ k, row = some k → Free M k w) (hne : row ≠ some b) : Bk M w0 b t cs w' :=
  ⟨(hg.block b h.free.lt (fun e => hne e.symm)).trans h.blk, h.free.grown hM hs hg hr, h.lo⟩
theorem Bk.alloc {M : Md σ} (hM : MdOk M) {w0 w : World} {s : σ} {b : Nat} {t : TypeId} {cs : Array Value} (h : Bk M w0 b t cs w) (hs : M.St s w) (o : Obj) : Bk M w0 b t cs (w.alloc o) := h.grown hM hs (row := none) (below_grown ((Below.refl _ _).alloc (Nat.le_refl _) o)) (fun k e => by cases e) (by simp)
theorem Bk.only {M : Md σ} (hM : MdOk M) {w0 w w' : World} {s : σ} {b k : Nat} {t : TypeId} {cs : Array Value} (h : Bk M w0 b t cs w) (hs : M.St s w) (ho : Only k w w') (hk : Free M k w) (hne : b ≠ k) : Bk M w0 b t cs w' :=
  h.grown hM hs ho.grown (fun j e => by injection e with e; rwa [← e]) (fun e => hne (by injection e with e; exact e.symm))
theorem Bk.turn {M : Md σ} (hM : MdOk M) {w0 w w' : World} {s : σ} {b : Nat} {t : TypeId} {cs cs' : Array Value} (h : Bk M w0 b t cs w) (hs : M.St s w) (ho : Only b w w') (hB : Blk w' b t cs') : Bk M w0 b t cs' w' :=
  ⟨hB, h.free.grown hM hs ho.grown (fun j e => by injection e with e; rw [← e]; exact h.free), h.lo⟩
theorem Wk.only {M : Md σ} (hM : MdOk M) {w0 w w' : World} {s : σ} {b : Nat} {t : TypeId} {cs : Array Value} (h : Wk M w0 s w) (hb : Bk M w0 b t cs w) (ho : Only b w w') : Wk M w0 s w' := h.grown hM ho.grown (fun k e => by injection e with e; rw [← e]; exact ⟨hb.free, hb.lo⟩)
theorem Bk.new {M : Md σ} (hM : MdOk M) {w0 w : World} {s : σ} (h : Wk M w0 s w) (cs : Array Value) (t : TypeId) : Bk M w0 w.heap.size t cs (w.alloc (.cells cs t)) := by
  have hg : w.grownBy (w.alloc (.cells cs t)) none := below_grown ((Below.refl _ _).alloc (Nat.le_refl _) _)
  obtain ⟨a, b, c⟩ := hM.grown h.st hg (fun k e => by cases e)
  exact ⟨Blk.new w _ _, ⟨by simp, fun e => Nat.lt_irrefl _ (hM.fresh h.st _ (.inl ((b _).1 e))), fun e => Nat.lt_irrefl _ (hM.fresh h.st _ (.inr ((c _).1 e)))⟩, h.stp.size⟩
structure Ls (M : Md σ) (size : Nat) (A : Option Addr) (n : Nat) (xs : List Value) (w : World) : Prop where
  rd : Reads w w.heap.size size A n xs
  free : 0 < n → ∀ ad, A = some ad → Free M ad.block w
theorem Ls.call {M : Md σ} {size n : Nat} {A : Option Addr} {xs : List Value} {w w' : World} (h : Ls M size A n xs w) (s : Stp M w w') : Ls M size A n xs w' := by
  refine ⟨⟨h.rd.1, fun hn => ?_⟩, fun hn ad e => (h.free hn ad e).step s⟩
  obtain ⟨ad, e, hb, hc⟩ := h.rd.2 hn
  have hf := h.free hn ad e
  refine ⟨ad, e, Nat.lt_of_lt_of_le hb s.size, fun j u hu => ?_⟩
  rw [← hc j u hu]
  refine World.cell?_of_block ?_
  rw [block_of_add]
  exact s.block _ hf.lt hf.wr
theorem Ls.grown {M : Md σ} (hM : MdOk M) {s : σ} {size n : Nat} {A : Option Addr} {xs : List Value} {w w' : World} {row : Option Nat} (h : Ls M size A n xs w) (hs : M.St s w) (hg : w.grownBy w' row) (hr : ∀ k, row = some k → Free M k w) (hne : 0 < n → ∀ ad, A = some ad → row ≠ some ad.block) : Ls M size A n xs w' := by
  refine ⟨⟨h.rd.1, fun hn => ?_⟩, fun hn ad e => (h.free hn ad e).grown hM hs hg hr⟩
  obtain ⟨ad, e, hb, hc⟩ := h.rd.2 hn
  refine ⟨ad, e, Nat.lt_of_lt_of_le hb hg.size, fun j u hu => ?_⟩
  rw [← hc j u hu]
  refine World.cell?_of_block ?_
  rw [block_of_add]
  exact hg.block _ hb (fun e' => hne hn ad e e'.symm)
theorem Ls.alloc {M : Md σ} (hM : MdOk M) {s : σ} {size n : Nat} {A : Option Addr} {xs : List Value} {w : World} (h : Ls M size A n xs w) (hs : M.St s w) (o : Obj) : Ls M size A n xs (w.alloc o) := h.grown hM hs (row := none) (below_grown ((Below.refl _ _).alloc (Nat.le_refl _) o)) (fun k e => by cases e) (fun _ _ _ => by simp)
theorem Ls.later {M : Md σ} (hM : MdOk M) {s : σ} {size n : Nat} {A : Option Addr} {xs : List Value} {w w' : World} (h : Ls M size A n xs w) (hs : M.St s w) (hb : Below w.heap.size w w') : Ls M size A n xs w' := h.grown hM hs (row := none) (below_grown hb) (fun k e => by cases e) (fun _ _ _ => by simp)
theorem Ls.only {M : Md σ} (hM : MdOk M) {s : σ} {size n b : Nat} {A : Option Addr} {xs : List Value} {w w' : World} (h : Ls M size A n xs w) (hs : M.St s w) (ho : Only b w w') (hf : Free M b w) (ha : Apart b n A) : Ls M size A n xs w' :=
  h.grown hM hs ho.grown (fun j e => by injection e with e; rwa [← e]) (fun hn ad e e' => ha hn ad e (by injection e' with e'; exact e'.symm))
theorem Ls.apart {M : Md σ} {size n b : Nat} {A : Option Addr} {xs : List Value} {w : World} (h : Ls M size A n xs w) (hb : w.heap.size ≤ b) : Apart b n A := fun hn ad e => by have := (h.free hn ad e).lt; omega
def itF {α β : Type} (M : Md σ) (one : σ → α → σ × β) (arg : Nat → α) : Nat → σ → σ × List β
  | 0, s => (s, [])
  | k + 1, s => if M.bad (itF M one arg k s).1 then itF M one arg k s else ((one (itF M one arg k s).1 (arg k)).1, (itF M one arg k s).2 ++ [(one (itF M one arg k s).1 (arg k)).2])
def intsF (M : Md σ) (s : σ) (l : List Int) : σ × List Int := itF M M.int (fun i => l.getD i 0) (M.len s l.length).2 (M.len s l.length).1
def bnd {α β : Type} (r : σ × α) (f : σ → α → σ × β) : σ × β := f r.1 r.2
theorem bnd_mk {α β : Type} (s : σ) (x : α) (f : σ → α → σ × β) : bnd (s, x) f = f s x := rfl
def idF (M : Md σ) (s : σ) (x : IdT) : σ × IdT := bnd (M.u64 s x.ver) fun s1 y1 => bnd (M.int s1 x.idx) fun s2 y2 => bnd (M.u64 s2 x.ep) fun s3 y3 => (s3, ⟨y1, y2, y3⟩)
def hdF (M : Md σ) (s : σ) (x : HdT) : σ × HdT := bnd (idF M s x.id) fun s1 y1 => bnd (M.int s1 x.k) fun s2 y2 => bnd (M.int s2 x.n) fun s3 y3 => bnd (M.int s3 x.size) fun s4 y4 => bnd (M.u32 s4 x.sum) fun s5 y5 => (s5, ⟨y1, y2, y3, y4, y5⟩)
def confF (M : Md σ) (s : σ) (x : List Int × List Int) : σ × (List Int × List Int) := bnd (intsF M s x.1) fun s1 y1 => bnd (intsF M s1 x.2) fun s2 y2 => (s2, (y1, y2))
def memF (M : Md σ) (s : σ) (x : Int × Int) : σ × (Int × Int) := bnd (M.int s x.1) fun s1 y1 => bnd (M.int s1 x.2) fun s2 y2 => (s2, (y1, y2))
def memsF (M : Md σ) (s : σ) (l : List (Int × Int)) : σ × List (Int × Int) := itF M (memF M) (fun i => l.getD i (0, 0)) (M.len s l.length).2 (M.len s l.length).1
def mapF (M : Md σ) (s : σ) (x : Nat × List (Int × Int)) : σ × (Nat × List (Int × Int)) := bnd (M.u64 s x.1) fun s1 y1 => bnd (memsF M s1 x.2) fun s2 y2 => (s2, (y1, y2))
def cmdF (M : Md σ) (s : σ) (x : CmdT) : σ × CmdT := bnd (M.int s x.kind) fun s1 y1 => bnd (M.u64 s1 x.client) fun s2 y2 => bnd (M.u64 s2 x.seq) fun s3 y3 => bnd (M.text s3 x.key) fun s4 y4 => bnd (M.int s4 x.size) fun s5 y5 => bnd (M.u32 s5 x.sum) fun s6 y6 => bnd (M.u64 s6 x.version) fun s7 y7 => bnd (M.u64 s7 x.epoch) fun s8 y8 => bnd (M.int s8 x.group) fun s9 y9 => bnd (M.int s9 x.node) fun s10 y10 => bnd (M.flag s10 x.up) fun s11 y11 => bnd (idF M s11 x.id) fun s12 y12 => bnd (mapF M s12 (x.mep, x.mem)) fun s13 y13 => (s13, ⟨y1, y2, y3, y4, y5, y6, y7, y8, y9, y10, y11, y12, y13.1, y13.2⟩)
def entF (M : Md σ) (s : σ) (x : EntT) : σ × EntT := bnd (M.u64 s x.index) fun s1 y1 => bnd (M.u64 s1 x.term) fun s2 y2 => bnd (M.int s2 x.kind) fun s3 y3 => bnd (cmdF M s3 x.cmd) fun s4 y4 => bnd (confF M s4 (x.voters, x.learners)) fun s5 y5 => (s5, ⟨y1, y2, y3, y4, y5.1, y5.2⟩)
end Go.Proofs.YtijdbdenmcjmmaaGreatDoor
end
section
namespace Go.Proofs.YtijdbdenmcjmmaaGreatDoor
open Go.RowKit OctMath
set_option linter.unusedVariables false
structure PF (g : Nat) (A : Option Addr) (n cap : Nat) (bs : List Nat) (s : Int × Bool) (w : World) : Prop where
  blk : Blk w g 143 #[.slice A n cap, .int .i64 s.1, .bool false, .bool s.2]
  rd : Reads w w.heap.size 1 A n (bs.map bv)
  ne : 0 < n → ∀ ad, A = some ad → Not g ad.block
theorem PF.turn {g : Nat} {A : Option Addr} {n cap : Nat} {s s' : Int × Bool} {bs : List Nat} {w w' : World} (h : PF g A n cap bs s w) (k : Keep (Not g) w w') (hB : Blk w' g 143 #[.slice A n cap, .int .i64 s'.1, .bool false, .bool s'.2]) : PF g A n cap bs s' w' :=
  ⟨hB, k.reads h.rd h.ne, h.ne⟩
theorem PF.drew {g : Nat} {A : Option Addr} {n cap : Nat} {bs : List Nat} {s : Int × Bool} {w : World} (h : PF g A n cap bs s w) : PF g A n cap bs s w.drew := ⟨h.blk, h.rd, h.ne⟩
theorem PF.put {g : Nat} {A : Option Addr} {n cap : Nat} {q : Int} {bs : List Nat} {s : Int × Bool} {w : World} (h : PF g A n cap bs s w) : PF g A n cap bs (q, s.2) (w.setCell ⟨g, 1, none⟩ (.int .i64 q)) ∧ Keep (Not g) w (w.setCell ⟨g, 1, none⟩ (.int .i64 q)) := by
  have k := Keep.set_ (Not g) w (g := g) 1 (.int .i64 q) (fun h => h rfl)
  exact ⟨h.turn k (by have := h.blk.set_ 1 (.int .i64 q); simpa using this), k⟩
end Go.Proofs.YtijdbdenmcjmmaaGreatDoor
end
section
namespace Go.Proofs.YtijdbdenmcjmmaaGreatDoor
open Go.RowKit OctMath
set_option linter.unusedVariables false
theorem PF.below {g : Nat} {A : Option Addr} {n cap : Nat} {bs : List Nat} {s : Int × Bool} {w w' : World} (h : PF g A n cap bs s w) (k : Below w.heap.size w w') : PF g A n cap bs s w' :=
  h.turn (Keep.below k) ((Keep.below (H := fun _ => True) k).blk h.blk trivial)
theorem PF.apart {g : Nat} {A : Option Addr} {n cap : Nat} {bs : List Nat} {s : Int × Bool} {w : World} (h : PF g A n cap bs s w) {B m : Nat} {A1 : Option Addr} {xs : List Nat} (hr : Reads w B 1 A1 m (xs.map bv)) : 0 < m → ∀ ad, A1 = some ad → Not g ad.block := by
  intro hm ad ha hg
  obtain ⟨ad', u, e1, hB, h2, h3⟩ := hr.at_ hm
  rw [ha] at e1
  injection e1 with e1
  rw [← e1] at h3
  rw [show ad.add 0 = ad from rfl] at h3
  rw [List.getElem?_map] at h2
  obtain ⟨x, -, rfl⟩ := Option.map_eq_some_iff.1 h2
  have hb : w.heap[ad.block]? = some (.cells #[.slice A n cap, .int .i64 s.1, .bool false, .bool s.2] 143) := by rw [hg]; exact h.blk
  unfold World.cell? at h3
  rw [hb] at h3
  simp only at h3
  split at h3
  · cases h3
  · match ho : ad.off, h3 with
    | 0, h3 => simp [bv] at h3
    | 1, h3 => simp [bv] at h3
    | 2, h3 => simp [bv] at h3
    | 3, h3 => simp [bv] at h3
    | k + 4, h3 => simp at h3
end Go.Proofs.YtijdbdenmcjmmaaGreatDoor
end
