/-
  The walk of OctetOne where a number and bytes can be read.
-/
import Derived.Test.YthdmnmpdmniaaaaOctW7
import Derived.Test.YthdmnmpdmniaaaaOctOneM
import Derived.Test.YthdmnmpdmniaaaaLib2
import Derived.Deep.RegionHeld3
namespace Go.Proofs.Ythdmnmpdmniaaaa
open Go.RowKit OctMath
set_option linter.unusedVariables false
theorem rdB_byt (bs : List Nat) (at_ most : Int) (h : Byt bs) : Byt (rdB bs at_ most).1 := by
  unfold rdB
  simp only
  split
  · intro x hx; cases hx
  · split
    · intro x hx; cases hx
    · exact (h.drop _).take _
theorem undrew {B : Nat} {a w : World} (h : Below B a.drew w) : Below B a w := ⟨h.os, h.tape, h.output, h.size, h.block⟩
set_option maxRecDepth 100000 in
set_option maxHeartbeats 16000000 in
theorem one_any (A : Option Addr) (cap n : Nat) (at_ : Int) (bs : List Nat) (w : World) (hb : Byt bs) (hn : bs.length = n) (hr : Reads w w.heap.size 1 A n (bs.map bv)) (hc : n ≤ cap) (hm : cap ≤ maxLen) (hn2 : n ≤ 140737488351232) (E0 : (rdN bs at_).2.2 = 0) (F0 : (rdB bs at_ n).2.2 = 0) :
    Calls Try.prog 5 #[.slice A n cap, .int .i64 at_] w fun e w' => e = .returned (.bool true) ∧ Below w.heap.size w w' := by
  obtain ⟨l1, l2, l3⟩ := rdN_lt bs at_ hb
  obtain ⟨k, rfl, e1, e2, e3⟩ := rdN_one bs at_ hb E0
  have hb0 : ∀ W, Reads W W.heap.size 1 A n (bs.map bv) → Calls Try.prog 14 #[.slice A n cap, .int .i64 (k : Int), .int .i64 (n : Int)] W (RetB3 (rdB bs k n) W) := fun W h => bytes_any A cap n (k : Int) (n : Int) bs W hb hn h hc hm hn2 (by omega)
  have hi0 : ∀ W, Reads W W.heap.size 1 A n (bs.map bv) → Calls Try.prog 16 #[.slice A n cap, .int .i64 (k : Int)] W fun e w' => e = .returned (.tuple #[.int .i64 (unz (rdN bs k).1), .int .i64 (rdN bs k).2.1, .int .i64 (rdN bs k).2.2]) ∧ W = w' := fun W h => int_any A cap n (k : Int) bs W hb hn h hc hm
  have HN := Lib.hid (number_any A cap n (k : Int) bs w hb hn hr hc hm)
  have g0 := zz_unz (rdN bs k).1
  have g1 : -9223372036854775808 ≤ unz (rdN bs k).1 ∧ unz (rdN bs k).1 ≤ 9223372036854775807 := by unfold unz; split <;> omega
  obtain ⟨k', hk', f1, f2, f3⟩ := rdB_one bs _ n hb F0
  obtain rfl : k = k' := by omega
  obtain ⟨V, eV⟩ : ∃ V, (rdN bs k).1 = V := ⟨_, rfl⟩
  obtain ⟨R, eR⟩ : ∃ R, rdB bs k n = R := ⟨_, rfl⟩
  obtain ⟨xs, Q, F⟩ := R
  have hxb : Byt xs := by
    have := rdB_byt bs k n hb
    rw [eR] at this; exact this
  rw [eV] at e1
  rw [eV, e1, E0] at HN hi0
  rw [eV] at e2 e3 g0 g1 l1
  rw [eR] at hb0 f1 f2 f3 F0
  have HB := Lib.hid hb0
  have HI := Lib.hid hi0
  simp only at f1 f2 f3 F0
  obtain ⟨q, eq⟩ : ∃ q, k + (putN xs.length ++ xs).length = q := ⟨_, rfl⟩
  obtain ⟨p, ep⟩ : ∃ p, k + (putN V).length = p := ⟨_, rfl⟩
  rw [eq] at f1 f2
  rw [ep] at HN HI e2
  rw [f1, F0] at HB
  have hp0 := putN_pos V
  have hp1 := putN_pos xs.length
  have hql : (putN xs.length ++ xs).length = q - k := by omega
  have hpl : (putN V).length = p - k := by omega
  have hkp : k < p := by omega
  have hkq : k < q := by rw [← eq, List.length_append]; omega
  rw [hql] at f3
  rw [hpl] at e3
  have F3 := Lib.hid f3
  have E3 := Lib.hid e3
  have HR := Lib.hid hr
  obtain ⟨A2, s1, s2⟩ := slice_mid Try.underlying22 Try.infoU8 hr k p (by omega) (by omega) hc
  obtain ⟨A3, s3, s4⟩ := slice_mid Try.underlying22 Try.infoU8 hr k q (by omega) (by omega) hc
  rw [e3] at s2
  rw [f3] at s4
  have S2 := Lib.hid s2
  have S4 := Lib.hid s4
  have EV := Lib.hid eV
  have hxl : (putN xs.length).length + xs.length ≤ n := by have := hql; rw [List.length_append] at this; omega
  clear eq ep eV eR f1 F0 e1 E0 hr hi0 hb0 l2 l3 f3 e3 s2 s4 hp0 hp1 hql
  have Hpl := Lib.hid hpl
  clear hpl
  obtain ⟨ys, eys⟩ : ∃ ys, putN xs.length ++ xs = ys := ⟨_, rfl⟩
  have hyb : Byt ys := by rw [← eys]; exact Byt.append (putN_byt _) hxb
  rw [eys] at F3 S4
  have EY := Lib.hid eys
  clear eys
  obtain ⟨vs, evs⟩ : ∃ vs, putN V = vs := ⟨_, rfl⟩
  have hvb : Byt vs := by rw [← evs]; exact putN_byt _
  rw [evs] at E3 S2 Hpl
  have EVS := Lib.hid evs
  clear evs
  have d1 : decide (p ≤ k) = false := decide_eq_false (by omega)
  have d2 : decide (n < p) = false := decide_eq_false (by omega)
  have d3 : decide (q ≤ k) = false := decide_eq_false (by omega)
  have d4 : decide (n < q) = false := decide_eq_false (by omega)
  have d5 : decide ((p : Int) ≤ (k : Int)) = false := decide_eq_false (by omega)
  have d6 : decide ((n : Int) < (p : Int)) = false := decide_eq_false (by omega)
  have d7 : decide ((q : Int) ≤ (k : Int)) = false := decide_eq_false (by omega)
  have d8 : decide ((n : Int) < (q : Int)) = false := decide_eq_false (by omega)
  go_enter Try.func5, Try.ntmps5
  go_wp2_with fail
  refine HN.out.mono ?_
  rintro e w' ⟨rfl, rfl⟩
  go_wp2_with fail
  go_region_held3 (fun w' => True) (first | exact True.intro | fail) (first
    | (go_at_call 13; refine (putnum_any none 0 0 V [] _ Reads.none_ (by simp) (by omega) (by omega)).mono ?_; intro e wa ha; obtain ⟨A5, c5, rfl, hr5, -, -, hb5, -⟩ := ha.open; rw [List.nil_append, EVS.out] at hr5; rw [List.nil_append, EVS.out, List.length_map]; rw [List.length_map] at hr5; have HR5 := Lib.hid hr5; have hb6 : Below w.heap.size w wa := undrew hb5; clear hr5 ha hb5)
    | (go_at_call 12; refine (same_any A5 A2 c5 _ _ _ vs vs _ hvb hvb HR5.out ((S2.out _ (HR.out.below hb6)).more hb6.size)).mono ?_; rintro e w' ⟨rfl, rfl⟩))
  go_wp2_with fail
  refine (HB.out _ ((HR.out.below hb6).more hb6.size)).mono ?_
  rintro e wb ⟨A7, n7, c7, rfl, hr7, hc7, hm7, hb7⟩
  have hn7 : n7 = xs.length := by have := hr7.1; simpa using this.symm
  subst hn7
  have HR7 := Lib.hid hr7
  have hb8 : Below w.heap.size w wb := hb6.trans (hb7.mono hb6.size)
  clear hr7 hb7 hb6
  go_wp2_with fail
  go_region_held3 (fun w' => True) (first | exact True.intro | fail) (first
    | (go_at_call 15; refine (putbytes_any none A7 0 c7 0 xs.length [] (xs.map bv) _ Reads.none_ (by simp) HR7.out.drew (bv_one xs) (by omega)).mono ?_; intro e wc hcc; obtain ⟨A9, c9, rfl, hr9, -, -, hb9, -⟩ := hcc.open; rw [List.nil_append, ← List.map_append, EY.out] at hr9; rw [List.nil_append, ← List.map_append, EY.out, List.length_map]; rw [List.length_map] at hr9; have HR9 := Lib.hid hr9; have hb10 : Below w.heap.size w wc := hb8.trans ((undrew hb9).mono hb8.size); clear hr9 hcc hb9)
    | (go_at_call 12; refine (same_any A9 A3 c9 _ _ _ ys ys _ hyb hyb HR9.out ((S4.out _ (HR.out.below hb10)).more hb10.size)).mono ?_; rintro e w' ⟨rfl, rfl⟩))
  clear hb8 HR7
  go_wp2_with fail
  refine (HI.out _ ((HR.out.below hb10).more hb10.size)).mono ?_
  rintro e w' ⟨rfl, rfl⟩
  go_wp2_with fail
  go_region_held3 (fun w' => True) (first | exact True.intro | fail) (first
    | (go_at_call 17; refine (putint_any none 0 0 (unz V) [] _ Reads.none_ (by simp) g1.1 g1.2 (by omega)).mono ?_; intro e wd hdd; obtain ⟨A11, c11, rfl, hr11, -, -, hb11, -⟩ := hdd.open; rw [List.nil_append, g0, EVS.out] at hr11; rw [List.nil_append, g0, EVS.out, List.length_map]; rw [List.length_map] at hr11; have HR11 := Lib.hid hr11; have hb12 : Below w.heap.size w wd := hb10.trans ((undrew hb11).mono hb10.size); clear hr11 hdd hb11)
    | (go_at_call 12; refine (same_any A11 A2 c11 _ _ _ vs vs _ hvb hvb HR11.out ((S2.out _ (HR.out.below hb12)).more hb12.size)).mono ?_; rintro e w' ⟨rfl, rfl⟩)
    | (go_at_call 8; refine (heads_any _).mono ?_; rintro e we ⟨rfl, he⟩))
  go_wp2
  go_ret
  exact ⟨rfl, hb12.trans (he.mono hb12.size)⟩
end Go.Proofs.Ythdmnmpdmniaaaa
