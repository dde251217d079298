/-
  Skew, the program's and the reference's. (printed by gen_gal6.py)
-/
import Derived.Test.YtckmmcklhdfjfaaGaL5
namespace Go.Proofs.Ytckmmcklhdfjfaa
open Go.RowKit
set_option linter.unusedVariables false
/-- Bits of a class. -/
def rep (c : Option Nat) : Nat := c.getD 9221120237041090561
theorem rep_cls (r : Nat) : cls (rep (cls r)) = cls r := by
  cases h : nanb r with
  | true => rw [cls_nan h]; decide
  | false => rw [cls_num h]; exact cls_num h
theorem reps_cls (rs : List Nat) : ((rs.map cls).map rep).map cls = rs.map cls := by
  rw [List.map_map, List.map_map]
  exact List.map_congr_left fun r _ => rep_cls r
/-- The greatest's class, told by classes. -/
def gcl (cl : List (Option Nat)) (n : Nat) : Option Nat := cls (atV (cl.map rep) (gTo (cl.map rep) n))
theorem gcl_of {rs : List Nat} {cl : List (Option Nat)} (h : rs.map cls = cl) (n : Nat) : cls (atV rs (gTo rs n)) = gcl cl n := by
  subst h
  unfold gcl
  exact (atV_cls (reps_cls rs) n).symm
def meanC (cl : List (Option Nat)) : Option Nat := ratio (cl.foldl (fun s c => fop .add s c) (cls 0)) (cls (fl cl.length))
theorem meanC_of {rs : List Nat} {cl : List (Option Nat)} (h : rs.map cls = cl) : mean rs = meanC cl := by
  subst h
  unfold mean meanC fsum
  rw [List.foldl_map, List.length_map]
/-- The loads of members that have a weight. -/
def smc (ms : List Mem) (cl : List (Option Nat)) : Nat → List (Option Nat)
  | 0 => []
  | k + 1 => if 0 < (ms.getD k (0, 0)).2 then smc ms cl k ++ [cl.getD k none] else smc ms cl k
theorem smc_len (ms : List Mem) (cl : List (Option Nat)) : ∀ k, (smc ms cl k).length ≤ k
  | 0 => Nat.le_refl _
  | k + 1 => by
    have := smc_len ms cl k
    unfold smc
    split
    · simp; omega
    · omega
def skw (ms : List Mem) (cl : List (Option Nat)) (n : Nat) : Option Nat := ratio (gcl cl n) (meanC (smc ms cl n))
theorem cls_getD {rs : List Nat} {cl : List (Option Nat)} (h : rs.map cls = cl) {k : Nat} (hk : k < rs.length) : cls (rs.getD k 0) = cl.getD k none := by
  subst h
  rw [List.getD_eq_getElem?_getD, List.getD_eq_getElem?_getD, List.getElem?_map, List.getElem?_eq_getElem hk]
  rfl
set_option maxRecDepth 100000 in
set_option maxHeartbeats 4000000 in
theorem skew_any (e : Nat) (A : Option Addr) (n cap : Nat) (ms : List Mem) (C : Option Addr) (m cc : Nat) (cs : List Int) (w : World) (HR : Hid (Reads w w.heap.size 2 A n (mcells ms))) (HC : Hid (Reads w w.heap.size 1 C m (cs.map iv)))
    (hl : Hid (ms.length = n)) (hcl : Hid (cs.length = m)) (hn : n * 16 ≤ 140737488351232) (hm : m ≤ 9223372036854775807) :
    Calls Try.prog 20 #[mapV e A n cap, .slice C m cc] w fun e w' => ∃ r, e = .returned (.float .f64 r) ∧ cls r = skw ms (lds ms cs n) n ∧ Below w.heap.size w w' := by
  obtain ⟨w1, ew1⟩ : ∃ w1, w.alloc (.cells #[.int .u64 (e : Int), .slice A n cap] 37) = w1 := ⟨_, rfl⟩
  have hb1 : Below w.heap.size w w1 := by rw [← ew1]; exact (Below.refl _ _).alloc (Nat.le_refl _) _
  have HB1 := Lib.hid hb1
  have hx : Blk w1 w.heap.size 37 #[.int .u64 (e : Int), .slice A n cap] := by rw [← ew1]; exact Blk.new w _ _
  have hx0 : w1.cell? ⟨w.heap.size, 0, none⟩ = some (.int .u64 (e : Int)) := hx.cell 0
  have hx1 : w1.cell? ⟨w.heap.size, 1, none⟩ = some (.slice A n cap) := hx.cell 1
  have HX := Lib.hid hx
  have HZ := Lib.hid (show w.heap.size < w1.heap.size from hx.lt)
  have HLD := Lib.hid (loads_any e A n cap ms C m cc cs w1 (Lib.hid (HR.out.later hb1)) (Lib.hid (HC.out.later hb1)) hl hcl hn hm)
  have HLL := Lib.hid (lds_len ms cs n)
  generalize lds ms cs n = cl at *
  clear hb1 hx
  have eV : mapV e A n cap = .agg #[.int .u64 (e : Int), .slice A n cap] := rfl
  rw [eV] at HLD ⊢
  clear eV
  go_enter Try.func20, Try.ntmps20
  go_wp2_with fail
  refine HLD.out.mono ?_
  rintro e w2 ⟨v, rs, rfl, HFS⟩
  have hown := HFS.ap.own
  have hlen : rs.length = n := by rw [HFS.len]; exact HLL.out
  rw [List.length_map, hlen] at hown
  obtain ⟨A1, c1, rfl, hc1, hc2⟩ := own_slice hown
  have HA := Lib.hid (Reads.of_own hown)
  have HCL := Lib.hid HFS.cl
  have HFL := Lib.hid HFS.fl
  have HB2 := Lib.hid HFS.ap.bel
  have HRL := Lib.hid hlen
  have hst0 := Lib.hid (Fs.start w2)
  have hz2 : w.heap.size < w2.heap.size := Nat.lt_of_lt_of_le HZ.out HB2.out.size
  have HZ2 := Lib.hid hz2
  have hx2 : w2.cell? ⟨w.heap.size, 0, none⟩ = some (.int .u64 (e : Int)) := (HX.out.below HB2.out HZ.out).cell 0
  have hx3 : w2.cell? ⟨w.heap.size, 1, none⟩ = some (.slice A n cap) := (HX.out.below HB2.out HZ.out).cell 1
  have HX2 := Lib.hid (HX.out.below HB2.out HZ.out)
  have HR2 := Lib.hid (HR.out.later (HB1.out.trans (HB2.out.mono HB1.out.size)))
  have HBB := Lib.hid (HB1.out.trans (HB2.out.mono HB1.out.size))
  clear HFS hown hlen hc1 hc2 ew1 hx0 hx1 hz2
  go_wp2
  clear hx2 hx3
  go_loopw [6, 7, 8, 17] (fun vo _ _ vi wr => ∃ k : Nat, ∃ ss : List Nat, k ≤ n ∧ vi = .int .i64 k ∧ Hid (Fs w2 (smc ms cl k) vo ss wr)) (fun _ _ _ vi _ => n - (intOf vi).toNat)
  case atStart => exact ⟨0, [], by omega, rfl, hst0⟩
  case round =>
    obtain ⟨k, ss, hk, rfl, hst⟩ := hrel
    clear hst0
    by_cases hlt : k < n
    · have d1 : decide (k < n) = true := decide_eq_true hlt
      have HLT := Lib.hid hlt
      obtain ⟨a1, rfl, hb1, hc1, hc2⟩ := (HR2.out.below hst.out.ap.bel).mem hlt
      obtain ⟨a2, rfl, hb2, hc3⟩ := (HA.out.below hst.out.ap.bel).flt hlt
      have HS := Lib.hid (show smc ms cl (k + 1) = if 0 < (ms.getD k (0, 0)).2 then smc ms cl k ++ [cl.getD k none] else smc ms cl k from rfl)
      have HY := Lib.hid (cls_getD HCL.out (k := k) (by have := HRL.out; omega))
      have HYL := Lib.hid (HFL.out.getD k)
      obtain ⟨y, ey⟩ : ∃ y, rs.getD k 0 = y := ⟨_, rfl⟩
      rw [ey] at hc3 HY HYL
      clear ey
      obtain ⟨p, ex⟩ : ∃ p, ms.getD k (0, 0) = p := ⟨_, rfl⟩
      rw [ex] at hc1 hc2 HS
      obtain ⟨mid, wt⟩ := p
      simp only at hc1 hc2 HS
      clear ex
      have HLN := Lib.hid (show ss.length ≤ k from by rw [hst.out.len]; exact smc_len _ _ _)
      obtain ⟨w5, ew5⟩ : ∃ w5, wr.alloc (.cells #[.int .i64 mid, .int .i64 wt] 39) = w5 := ⟨_, rfl⟩
      have hB5 : Blk w5 wr.heap.size 39 #[.int .i64 mid, .int .i64 wt] := by rw [← ew5]; exact Blk.new wr _ _
      have m1 : w5.cell? ⟨wr.heap.size, 1, none⟩ = some (.int .i64 wt) := hB5.cell 1
      have hb5 : Below wr.heap.size wr w5 := by rw [← ew5]; exact (Below.refl _ _).alloc (Nat.le_refl _) _
      have m2 : w5.cell? (a2.add k) = some (.float .f64 y) := (hb5.cell (p := a2.add k) (by rw [block_of_add]; exact Nat.lt_of_lt_of_le hb2 hst.out.ap.bel.size)).trans hc3
      have HF := Lib.hid (hst.out.later hb5)
      clear hB5 hb5 hst hc3
      by_cases hw : 0 < wt
      · have dw : decide (wt > 0) = true := decide_eq_true hw
        rw [if_pos hw] at HS
        go_wp2_with (
             at_builtin
             refine wpl_ap rfl _ _ 22 23 _ Try.underlying22 Try.infoF64 rfl rfl HF.out.ap (by rw [List.length_map]; have := HLN.out; omega) (.float .f64 y) rfl rfl rfl ?_
             intro v6 w6 hst6)
        exact ⟨⟨k + 1, _, by omega, by go_num, Lib.hid (by rw [HS.out]; exact HF.out.push HYL.out HY.out hst6.out)⟩, by simp [intOf]; omega⟩
      · have dw : decide (wt > 0) = false := decide_eq_false hw
        rw [if_neg hw] at HS
        go_wp2
        exact ⟨⟨k + 1, _, by omega, by go_num, by rw [HS.out]; exact HF⟩, by simp [intOf]; omega⟩
    · obtain rfl : n = k := by omega
      have ho := hst.out.ap.own
      have HSL := Lib.hid (show ss.length ≤ n from by rw [hst.out.len]; exact smc_len _ _ _)
      rw [List.length_map] at ho
      obtain ⟨A3, c3, rfl, hc3, hc4⟩ := own_slice ho
      have HRD := Lib.hid (Reads.of_own ho)
      have HSC := Lib.hid hst.out.cl
      have HA3 := Lib.hid (HA.out.later hst.out.ap.bel)
      have HBE := Lib.hid (HBB.out.trans (hst.out.ap.bel.mono HBB.out.size))
      have HML := Lib.hid (show n ≤ 4611686018427387904 from by omega)
      have HSM := Lib.hid (show ss.length ≤ 9223372036854775807 from by have := HSL.out; omega)
      clear ho hst
      go_wp2_with (first
        | (go_at_call 27; refine (greatest_any A1 n c1 rs _ HA3 HFL HML.out).mono ?_; rintro e w' ⟨rfl, hbg⟩; have HBG := Lib.hid hbg; clear hbg)
        | (go_at_call 10; refine (mean_any A3 ss.length c3 ss _ (Lib.hid (HRD.out.later HBG.out)) (Lib.hid rfl) HSM.out).mono ?_; rintro e w' ⟨r, d, rfl, hcr, hr, rfl⟩; have HCR := Lib.hid hcr; clear hcr)
        | (go_at_call 12; refine (ratio_any _ _ _).mono ?_; rintro e w' ⟨r2, d2, rfl, hcr2, hr2, rfl⟩; have HCR2 := Lib.hid hcr2; clear hcr2))
      go_ret
      exact ⟨_, rfl, by rw [HCR2.out, HCR.out, gcl_of HCL.out, meanC_of HSC.out]; rfl, bel_drewN (HBE.out.trans (HBG.out.mono HBE.out.size)) _⟩
set_option maxRecDepth 100000 in
set_option maxHeartbeats 4000000 in
theorem rskew_any (e : Nat) (A : Option Addr) (n cap : Nat) (ms : List Mem) (C : Option Addr) (m cc : Nat) (cs : List Int) (w : World) (HR : Hid (Reads w w.heap.size 2 A n (mcells ms))) (HC : Hid (Reads w w.heap.size 1 C m (cs.map iv)))
    (hl : Hid (ms.length = n)) (hcl : Hid (cs.length = m)) (hn : n * 16 ≤ 140737488351232) (hm : m ≤ 9223372036854775807) :
    Calls Try.prog 21 #[mapV e A n cap, .slice C m cc] w fun e w' => ∃ r, e = .returned (.float .f64 r) ∧ cls r = skw ms (lds ms cs n) n ∧ Below w.heap.size w w' := by
  obtain ⟨w1, ew1⟩ : ∃ w1, w.alloc (.cells #[.int .u64 (e : Int), .slice A n cap] 37) = w1 := ⟨_, rfl⟩
  have hb1 : Below w.heap.size w w1 := by rw [← ew1]; exact (Below.refl _ _).alloc (Nat.le_refl _) _
  have HB1 := Lib.hid hb1
  have hx : Blk w1 w.heap.size 37 #[.int .u64 (e : Int), .slice A n cap] := by rw [← ew1]; exact Blk.new w _ _
  have hx0 : w1.cell? ⟨w.heap.size, 0, none⟩ = some (.int .u64 (e : Int)) := hx.cell 0
  have hx1 : w1.cell? ⟨w.heap.size, 1, none⟩ = some (.slice A n cap) := hx.cell 1
  have HX := Lib.hid hx
  have HZ := Lib.hid (show w.heap.size < w1.heap.size from hx.lt)
  have HLD := Lib.hid (rloads_any e A n cap ms C m cc cs w1 (Lib.hid (HR.out.later hb1)) (Lib.hid (HC.out.later hb1)) hl hcl hn hm)
  have HLL := Lib.hid (lds_len ms cs n)
  generalize lds ms cs n = cl at *
  clear hb1 hx
  have eV : mapV e A n cap = .agg #[.int .u64 (e : Int), .slice A n cap] := rfl
  rw [eV] at HLD ⊢
  clear eV
  go_enter Try.func21, Try.ntmps21
  go_wp2_with fail
  refine HLD.out.mono ?_
  rintro e w2 ⟨v, rs, rfl, HFS⟩
  have hown := HFS.ap.own
  have hlen : rs.length = n := by rw [HFS.len]; exact HLL.out
  rw [List.length_map, hlen] at hown
  obtain ⟨A1, c1, rfl, hc1, hc2⟩ := own_slice hown
  have HA := Lib.hid (Reads.of_own hown)
  have HCL := Lib.hid HFS.cl
  have HFL := Lib.hid HFS.fl
  have HB2 := Lib.hid HFS.ap.bel
  have HRL := Lib.hid hlen
  have hst0 := Lib.hid (Fs.start w2)
  have hz2 : w.heap.size < w2.heap.size := Nat.lt_of_lt_of_le HZ.out HB2.out.size
  have HZ2 := Lib.hid hz2
  have hx2 : w2.cell? ⟨w.heap.size, 0, none⟩ = some (.int .u64 (e : Int)) := (HX.out.below HB2.out HZ.out).cell 0
  have hx3 : w2.cell? ⟨w.heap.size, 1, none⟩ = some (.slice A n cap) := (HX.out.below HB2.out HZ.out).cell 1
  have HX2 := Lib.hid (HX.out.below HB2.out HZ.out)
  have HR2 := Lib.hid (HR.out.later (HB1.out.trans (HB2.out.mono HB1.out.size)))
  have HBB := Lib.hid (HB1.out.trans (HB2.out.mono HB1.out.size))
  clear HFS hown hlen hc1 hc2 ew1 hx0 hx1 hz2
  go_wp2
  clear hx2 hx3
  go_loopw [6, 7] (fun vo vi wr => ∃ k : Nat, ∃ ss : List Nat, k ≤ n ∧ vi = .int .i64 k ∧ Hid (Fs w2 (smc ms cl k) vo ss wr)) (fun _ vi _ => n - (intOf vi).toNat)
  case atStart => exact ⟨0, [], by omega, rfl, hst0⟩
  case round =>
    obtain ⟨k, ss, hk, rfl, hst⟩ := hrel
    clear hst0
    by_cases hlt : k < n
    · have d1 : decide (k < n) = true := decide_eq_true hlt
      have HLT := Lib.hid hlt
      obtain ⟨a1, rfl, hb1, hc1, hc2⟩ := (HR2.out.below hst.out.ap.bel).mem hlt
      obtain ⟨a2, rfl, hb2, hc3⟩ := (HA.out.below hst.out.ap.bel).flt hlt
      have HS := Lib.hid (show smc ms cl (k + 1) = if 0 < (ms.getD k (0, 0)).2 then smc ms cl k ++ [cl.getD k none] else smc ms cl k from rfl)
      have HY := Lib.hid (cls_getD HCL.out (k := k) (by have := HRL.out; omega))
      have HYL := Lib.hid (HFL.out.getD k)
      obtain ⟨y, ey⟩ : ∃ y, rs.getD k 0 = y := ⟨_, rfl⟩
      rw [ey] at hc3 HY HYL
      clear ey
      obtain ⟨p, ex⟩ : ∃ p, ms.getD k (0, 0) = p := ⟨_, rfl⟩
      rw [ex] at hc1 hc2 HS
      obtain ⟨mid, wt⟩ := p
      simp only at hc1 hc2 HS
      clear ex
      have HLN := Lib.hid (show ss.length ≤ k from by rw [hst.out.len]; exact smc_len _ _ _)
      have hx6 : wr.cell? ⟨w.heap.size, 1, none⟩ = some (.slice (some a1) n cap) := (HX2.out.below hst.out.ap.bel HZ2.out).cell 1
      have HF := hst
      clear hst
      by_cases hw : 0 < wt
      · have dw : decide (wt > 0) = true := decide_eq_true hw
        rw [if_pos hw] at HS
        go_wp2_with (
             at_builtin
             refine wpl_ap rfl _ _ 22 23 _ Try.underlying22 Try.infoF64 rfl rfl HF.out.ap (by rw [List.length_map]; have := HLN.out; omega) (.float .f64 y) rfl rfl rfl ?_
             intro v6 w6 hst6)
        exact ⟨⟨k + 1, _, by omega, by go_num, Lib.hid (by rw [HS.out]; exact HF.out.push HYL.out HY.out hst6.out)⟩, by simp [intOf]; omega⟩
      · have dw : decide (wt > 0) = false := decide_eq_false hw
        rw [if_neg hw] at HS
        go_wp2
        exact ⟨⟨k + 1, _, by omega, by go_num, by rw [HS.out]; exact HF⟩, by simp [intOf]; omega⟩
    · obtain rfl : n = k := by omega
      have ho := hst.out.ap.own
      have HSL := Lib.hid (show ss.length ≤ n from by rw [hst.out.len]; exact smc_len _ _ _)
      rw [List.length_map] at ho
      obtain ⟨A3, c3, rfl, hc3, hc4⟩ := own_slice ho
      have HRD := Lib.hid (Reads.of_own ho)
      have HSC := Lib.hid hst.out.cl
      have HA3 := Lib.hid (HA.out.later hst.out.ap.bel)
      have HBE := Lib.hid (HBB.out.trans (hst.out.ap.bel.mono HBB.out.size))
      have HML := Lib.hid (show n ≤ 4611686018427387904 from by omega)
      have HSM := Lib.hid (show ss.length ≤ 9223372036854775807 from by have := HSL.out; omega)
      clear ho hst
      go_wp2_with (first
        | (go_at_call 35; refine (rgreatest_any A1 n c1 rs _ HA3 HFL HML.out).mono ?_; rintro e w' ⟨rfl, hbg⟩; have HBG := Lib.hid hbg; clear hbg)
        | (go_at_call 11; refine (rmean_any A3 ss.length c3 ss _ (Lib.hid (HRD.out.later HBG.out)) (Lib.hid rfl) HSM.out).mono ?_; rintro e w' ⟨r, d, rfl, hcr, hr, rfl⟩; have HCR := Lib.hid hcr; clear hcr)
        | (go_at_call 13; refine (rratio_any _ _ _).mono ?_; rintro e w' ⟨r2, d2, rfl, hcr2, hr2, rfl⟩; have HCR2 := Lib.hid hcr2; clear hcr2))
      go_ret
      exact ⟨_, rfl, by rw [HCR2.out, HCR.out, gcl_of HCL.out, meanC_of HSC.out]; rfl, bel_drewN (HBE.out.trans (HBG.out.mono HBE.out.size)) _⟩
end Go.Proofs.Ytckmmcklhdfjfaa
