/-
  GaugeAll's walk.
-/
import Derived.Test.YtckmmcklhdfjfaaGaS7
import Derived.Test.YtckmmcklhdfjfaaGaIn
import Derived.Deep.OwnRows
namespace Go.Proofs.Ytckmmcklhdfjfaa
open Go.RowKit
set_option linter.unusedVariables false
/-- Which places have come up. -/
def sn (f : Nat → Nat) : Nat → Nat → Bool
  | 0 => fun _ => false
  | k + 1 => fun j => if j = f k then true else sn f k j
theorem sn_no {f : Nat → Nat} {n : Nat} (hi : ∀ i j, i < n → j < n → f i = f j → i = j) : ∀ k m, k ≤ m → m < n → sn f k (f m) = false
  | 0, m, _, _ => rfl
  | k + 1, m, h1, h2 => by
    unfold sn
    rw [if_neg (fun e => by have := hi m k h2 (by omega) e; omega)]
    exact sn_no hi k m (by omega) h2
theorem Try.infoBool : (Try.prog.info? 4).map (fun i => (i.zero, i.size, i.bytes)) = some (some (.bool false), 1, 1) := by kernel_rfl
set_option maxRecDepth 100000 in
set_option maxHeartbeats 4000000 in
theorem gall_any (A : Option Addr) (n cap : Nat) (l : List Nat) (w : World) (HR : Hid (Reads w w.heap.size 1 A n (l.map fv))) (hF : Hid (Fl l)) (hn : n ≤ 17592186043904) :
    Calls Try.prog 4 #[.slice A n cap] w fun e w' => e = .returned (.bool true) ∧ Below w.heap.size w w' := by
  have HO := Lib.hid (order_any A n cap l w HR hF hn)
  have hmk := run_make_row' (P := Try.prog) 31 4 (.bool false) 1 Try.underlying31 Try.infoBool rfl .i64 .i64 n (by omega) (by omega)
  have d0 : ((n : Int) != (n : Int)) = false := by simp
  go_enter Try.func4, Try.ntmps4
  go_wp2_with fail
  refine HO.out.mono ?_
  rintro e w1 ⟨Ao, rc, f, rfl, hO⟩
  have HOR := Lib.hid hO
  have hz1 : w.heap.size ≤ w1.heap.size := hO.bel.size
  clear hO
  have HM := Lib.hid (RowB.made w1 n)
  obtain ⟨w2, ew2⟩ : ∃ w2, w1.alloc (.cells (madeCells #[.bool false] n) 4) = w2 := ⟨_, rfl⟩
  have hb2 : Below w1.heap.size w1 w2 := by rw [← ew2]; exact (Below.refl _ _).alloc (Nat.le_refl _) _
  rw [ew2] at HM
  have HB2 := Lib.hid hb2
  clear hb2
  go_wp2
  clear ew2 hmk
  go_loopw [5, 6, 7] (fun vi _ _ wr => ∃ k : Nat, k ≤ n ∧ vi = .int .i64 k ∧ Hid (RowB wr w1.heap.size n (sn f k)) ∧ Hid (Below w1.heap.size w1 wr)) (fun vi _ _ _ => n - (intOf vi).toNat)
  case atStart => exact ⟨0, by omega, rfl, HM, HB2⟩
  case round =>
    obtain ⟨k, hk, rfl, HSN, HBW⟩ := hrel
    clear HM HB2
    by_cases hlt : k < n
    · have d1 : decide (k < n) = true := decide_eq_true hlt
      obtain ⟨g, rfl, hrow⟩ := HOR.out.rows (by omega)
      have hrow2 := hrow.below HBW.out hrow.lt
      have HLI := Lib.hid (HOR.out.lies k hlt)
      have c1 := hrow2.cell hlt
      have hsc := HSN.out.cell (HOR.out.lies k hlt)
      rw [sn_no (n := n) HOR.out.inj k k (Nat.le_refl _) hlt] at hsc
      have HSK := Lib.hid (show sn f (k + 1) = fun j => if j = f k then true else sn f k j from rfl)
      have hset := HSN.out.set_ (f k) true
      have hfz := HSN.out.frozen (f k)
      have hgS : g < w1.heap.size := hrow.lt
      have hRB : Reads wr w.heap.size 1 A n (l.map fv) := (HR.out.below HOR.out.bel).below (HBW.out.mono (by omega))
      have p0 : (0 : Int) ≤ (k : Int) := by omega
      have p1 : (k : Int) < (n : Int) := by omega
      obtain ⟨j, ej⟩ : ∃ j, f k = j := ⟨_, rfl⟩
      rw [ej] at c1 hsc HSK hset hfz HLI
      have j0 : (0 : Int) ≤ (j : Int) := by omega
      have j1 : (j : Int) < (n : Int) := by have := HLI.out; omega
      have j2 : decide ((j : Int) ≥ (n : Int)) = false := decide_eq_false (by omega)
      have j3 : decide (j ≥ n) = false := decide_eq_false (by omega)
      have EJ := Lib.hid ej
      obtain ⟨w5, ew5⟩ : ∃ w5, wr.setCell ⟨w1.heap.size, j, none⟩ (.bool true) = w5 := ⟨_, rfl⟩
      rw [ew5] at hset
      have HS5 := Lib.hid (show RowB w5 w1.heap.size n (sn f (k + 1)) from by rw [HSK.out]; exact hset)
      have hbs : Below w1.heap.size w1 w5 := by rw [← ew5]; exact HBW.out.setCell (Nat.le_refl _) _
      have HB5 := Lib.hid hbs
      have hrow5 := hrow.below hbs hrow.lt
      have HR5 := Lib.hid (show Reads w5 w.heap.size 1 A n (l.map fv) from (HR.out.below HOR.out.bel).below (hbs.mono (by omega)))
      have HW5 := Lib.hid hrow5
      clear hbs hset ej hrow hRB hrow2
      have j4 : decide ((j : Int) < 0) = false := decide_eq_false (by omega)
      rcases Nat.eq_zero_or_pos k with hk0 | hk0
      · have d2 : decide (0 < k) = false := decide_eq_false (by omega)
        have d3 : decide ((k : Int) > 0) = false := decide_eq_false (by omega)
        have HK0 := Lib.hid hk0
        clear hk0
        go_wp2
        exact ⟨⟨k + 1, by omega, by go_num, HS5, HB5⟩, by simp [intOf]; omega⟩
      · have d2 : decide (0 < k) = true := decide_eq_true hk0
        have d3 : decide ((k : Int) > 0) = true := decide_eq_true (by omega)
        obtain ⟨kp, hkp⟩ : ∃ kp : Nat, k = kp + 1 := ⟨k - 1, by omega⟩
        have hkn : kp < n := by omega
        have HLP := Lib.hid (HOR.out.lies kp hkn)
        have c5 := HW5.out.cell hkn
        have c6 := HW5.out.cell hlt
        rw [EJ.out] at c6
        have HSD := HOR.out.sd kp k (Nat.zero_le _) (by omega) hlt
        rw [EJ.out] at HSD
        obtain ⟨jp, ejp⟩ : ∃ jp, f kp = jp := ⟨_, rfl⟩
        rw [ejp] at c5 HSD HLP
        have q0 : (0 : Int) ≤ (jp : Int) := by omega
        have q1 : (jp : Int) < (n : Int) := by have := HLP.out; omega
        have r0 : (0 : Int) ≤ (kp : Int) := by omega
        have r1 : (kp : Int) < (n : Int) := by omega
        have rw1 : IntKind.i64.wrap ((k : Int) - 1) = (kp : Int) := by rw [IntKind.wrap_i64]; omega
        obtain ⟨a1, rfl, hb1, hc1⟩ := HR5.out.flt HLP.out
        obtain ⟨a2, ea2, hb2, hc2⟩ := HR5.out.flt HLI.out
        obtain rfl := Option.some.inj ea2
        have HTD := Lib.hid (compF_told HSD)
        clear ea2 HSD ejp hkp
        obtain ⟨x, ex⟩ : ∃ x, l.getD jp 0 = x := ⟨_, rfl⟩
        obtain ⟨y, ey⟩ : ∃ y, l.getD j 0 = y := ⟨_, rfl⟩
        rw [ex, ey] at HTD
        rw [ex] at hc1
        rw [ey] at hc2
        have N1 := isnan_any x
        have N2 := isnan_any y
        have hgt : (FloatKind.f64.format.order x y == some .gt) = false := by
          rw [beq_eq_false_iff_ne]
          exact HTD.out.2
        clear ex ey
        cases hx : nanb x with
        | false =>
          rw [hx] at N1
          clear hx HTD
          go_wp2_with fail
          go_quiet (fail)
          go_wp2_with (first
            | (go_at_call 16; refine (N1 _).mono ?_; rintro e w' ⟨rfl, hw⟩; rw [hw]; clear hw))
          exact ⟨⟨k + 1, by omega, by go_num, Lib.hid (show RowB _ _ _ _ from HS5.out), Lib.hid (bel_drewN HB5.out _)⟩, by simp [intOf]; omega⟩
        | true =>
          have hy := HTD.out.1 hx
          rw [hx] at N1
          rw [hy] at N2
          clear hx HTD hy
          have tk1 : True := trivial
          go_wp2_with fail
          go_quiet (fail)
          go_wp2_with (first
            | (have _t := tk1; go_at_call 16; refine (N1 _).mono ?_; rintro e w' ⟨rfl, hw⟩; rw [hw]; clear hw tk1 _t)
            | (go_at_call 16; refine (N2 _).mono ?_; rintro e w' ⟨rfl, hw⟩; rw [hw]; clear hw))
          exact ⟨⟨k + 1, by omega, by go_num, Lib.hid (show RowB _ _ _ _ from HS5.out), Lib.hid (bel_drewN HB5.out _)⟩, by simp [intOf]; omega⟩
    · have d1 : decide (k < n) = false := decide_eq_false hlt
      have HBE := Lib.hid (HOR.out.bel.trans (HBW.out.mono hz1))
      clear HSN HBW
      go_wp2_with (go_at_call 14; refine (heads_any _).mono ?_; rintro e w8 ⟨rfl, hb8⟩; have HB8 := Lib.hid hb8; clear hb8)
      go_ret
      exact ⟨rfl, HBE.out.trans (HB8.out.mono HBE.out.size)⟩
end Go.Proofs.Ytckmmcklhdfjfaa
