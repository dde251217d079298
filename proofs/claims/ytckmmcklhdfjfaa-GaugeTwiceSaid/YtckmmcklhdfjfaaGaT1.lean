/-
  Twice as great: members and counts doubled; loads of both are of the same class.
-/
import Derived.Test.YtckmmcklhdfjfaaGaLoads
import Derived.Test.YtckmmcklhdfjfaaGaM4
namespace Go.Proofs.Ytckmmcklhdfjfaa
open Go.RowKit
set_option linter.unusedVariables false
def dbl (ms : List Mem) (k : Nat) : List Mem := (List.range k).map fun i => ((ms.getD i (0, 0)).1, 2 * (ms.getD i (0, 0)).2)
theorem dbl_succ (ms : List Mem) (k : Nat) : dbl ms (k + 1) = dbl ms k ++ [((ms.getD k (0, 0)).1, 2 * (ms.getD k (0, 0)).2)] := by unfold dbl; rw [List.range_succ, List.map_append]; rfl
theorem dbl_len (ms : List Mem) (k : Nat) : (dbl ms k).length = k := by simp [dbl]
theorem dbl_at (ms : List Mem) {k i : Nat} (h : i < k) : (dbl ms k).getD i (0, 0) = ((ms.getD i (0, 0)).1, 2 * (ms.getD i (0, 0)).2) := by
  unfold dbl
  rw [List.getD_eq_getElem?_getD, List.getElem?_map, List.getElem?_range h]; rfl
def dbc (cs : List Int) (k : Nat) : List Int := (List.range k).map fun i => 2 * cs.getD i 0
theorem dbc_succ (cs : List Int) (k : Nat) : dbc cs (k + 1) = dbc cs k ++ [2 * cs.getD k 0] := by unfold dbc; rw [List.range_succ, List.map_append]; rfl
theorem dbc_len (cs : List Int) (k : Nat) : (dbc cs k).length = k := by simp [dbc]
theorem dbc_at (cs : List Int) {k i : Nat} (h : i < k) : (dbc cs k).getD i 0 = 2 * cs.getD i 0 := by
  unfold dbc
  rw [List.getD_eq_getElem?_getD, List.getElem?_map, List.getElem?_range h]; rfl
theorem dbc_out (cs : List Int) {k i : Nat} (h : k ≤ i) : (dbc cs k).getD i 0 = 0 := by
  rw [List.getD_eq_getElem?_getD, List.getElem?_eq_none (by rw [dbc_len]; exact h)]; rfl
def Sml (z : Int) : Prop := 0 ≤ z ∧ z < 4503599627370496
theorem ldc_twice {a b : Int} (ha : Sml a) (hb : Sml b) : ratio (cls (fl (2 * a))) (cls (fl (2 * b))) = ratio (cls (fl a)) (cls (fl b)) := by
  obtain ⟨a, rfl⟩ : ∃ k : Nat, a = (k : Int) := ⟨a.toNat, by unfold Sml at ha; omega⟩
  obtain ⟨b, rfl⟩ : ∃ k : Nat, b = (k : Int) := ⟨b.toNat, by unfold Sml at hb; omega⟩
  have h1 : (2 * (a : Int)) = ((2 * a : Nat) : Int) := by omega
  have h2 : (2 * (b : Int)) = ((2 * b : Nat) : Int) := by omega
  rw [h1, h2]
  exact ratio_twice (by unfold Sml at ha; omega) (by unfold Sml at hb; omega)
theorem lds_twice {ms : List Mem} {cs : List Int} {n m : Nat} (hl : cs.length = m) (hm : ∀ i, i < n → Sml (ms.getD i (0, 0)).2) (hc : ∀ i, i < m → Sml (cs.getD i 0)) : lds (dbl ms n) (dbc cs m) n = lds ms cs n := by
  unfold lds
  refine List.map_congr_left fun k hk => ?_
  have hk := List.mem_range.1 hk
  unfold ldc
  rw [dbl_at ms hk]
  rcases Nat.lt_or_ge k m with h | h
  · rw [dbc_at cs h]
    exact ldc_twice (hc k h) (hm k hk)
  · have e : cs.getD k 0 = 0 := by rw [List.getD_eq_getElem?_getD, List.getElem?_eq_none (by omega)]; rfl
    rw [dbc_out cs h, e]
    have := ldc_twice (a := 0) ⟨by omega, by omega⟩ (hm k hk)
    simpa using this
theorem Try.infoMem : (Try.prog.info? 39).map (fun i => (i.zero, i.size, i.bytes)) = some (some (.agg #[.int .i64 0, .int .i64 0]), 2, 16) := by kernel_rfl
theorem mcells_append (a b : List Mem) : mcells (a ++ b) = mcells a ++ mcells b := by unfold mcells; rw [List.flatMap_append]
structure Row2 (w : World) (v : Value) (ms : List Mem) (wr : World) : Prop where
  own : wr.ownsRow w.heap.size 39 2 v ms.length (mcells ms)
  bel : Below w.heap.size w wr
theorem Row2.start (w : World) : Row2 w (.slice none 0 0) [] w := ⟨⟨rfl, .inl ⟨rfl, rfl⟩⟩, Below.refl _ _⟩
theorem Row2.later {w wr w' : World} {v : Value} {ms : List Mem} (h : Row2 w v ms wr) (hb : Below wr.heap.size wr w') : Row2 w v ms w' := ⟨h.own.kept (row := none) ⟨hb.os, hb.tape, hb.output, hb.size, fun k hk _ => hb.block k hk⟩ (by cases hv : v.ownBlock <;> simp), h.bel.trans (hb.mono h.bel.size)⟩
theorem Row2.only {w wr w' : World} {v : Value} {ms : List Mem} {g : Nat} (h : Row2 w v ms wr) (ho : Only g wr w') (hne : v.ownBlock ≠ some g) (hg : w.heap.size ≤ g) : Row2 w v ms w' := ⟨ho.own h.own hne, h.bel.trans (ho.below hg)⟩
theorem wpl_row2 {ops : Array Oper} {rest : List Oper} {o : Oper} {a : Act} {Q : Exit → Act → World → Prop} {w wr : World} {v : Value} {ms : List Mem} (hg : o.guard = none) (s x : Operand)
    (ho : o.op = .call { callee := .builtin .append, args := #[s, x], argTypes := #[35, 35] }) (hst : Row2 w v ms wr) (hl : (ms.length + 1) * 16 ≤ 140737488355328) (mid wt : Int) (hs : a.eval s = v) (hx : a.eval x = .slice (some ⟨wr.heap.size, 0, none⟩) 1 1)
    (h : ∀ v' w', Hid (Row2 w v' (ms ++ [(mid, wt)]) w') → wpList Try.prog ops Q rest (a.put o.dst v') w') : wpList Try.prog ops Q (o :: rest) a (wr.alloc (.cells #[.int .i64 mid, .int .i64 wt] 39)) := by
  have hb1 : Below w.heap.size w (wr.alloc (.cells #[.int .i64 mid, .int .i64 wt] 39)) := hst.bel.alloc hst.bel.size _
  have hst' : Row2 w v ms (wr.alloc (.cells #[.int .i64 mid, .int .i64 wt] 39)) := ⟨hst.own.alloc _, hb1⟩
  refine wpl_append hg s x 35 ho w w.heap.size 39 _ 2 16 Try.underlying35 Try.infoMem rfl (by decide) v ms.length (mcells ms) hs hst'.own (wr.heap.size + 1) (some ⟨wr.heap.size, 0, none⟩) 1 1 (mcells [(mid, wt)]) hx (Reads.lit wr 39 [.int .i64 mid, .int .i64 wt] 2 1 rfl) (by intro y hy; simp only [mcells, List.flatMap_cons, List.flatMap_nil, List.append_nil, List.mem_cons, List.not_mem_nil, or_false] at hy; rcases hy with rfl | rfl <;> rfl) (by omega) (by decide) hb1 hb1.size fun v' w' hh => h v' w' (Lib.hid ⟨?_, hh.out.2.1⟩)
  have := hh.out.1
  rw [mcells_append]
  simpa using this
set_option maxRecDepth 100000 in
set_option maxHeartbeats 4000000 in
theorem gtwice_any (e : Nat) (A : Option Addr) (n cap : Nat) (ms : List Mem) (C : Option Addr) (m cc : Nat) (cs : List Int) (w : World) (HR : Hid (Reads w w.heap.size 2 A n (mcells ms))) (HC : Hid (Reads w w.heap.size 1 C m (cs.map iv)))
    (hl : Hid (ms.length = n)) (hcl : Hid (cs.length = m)) (hn : n * 16 ≤ 140737488351232) (hm : m * 8 ≤ 140737488351232) :
    Calls Try.prog 5 #[mapV e A n cap, .slice C m cc] w fun e w' => e = .returned (.bool true) ∧ Below w.heap.size w w' := by
  obtain ⟨w1, ew1⟩ : ∃ w1, w.alloc (.cells #[.int .u64 (e : Int), .slice A n cap] 37) = w1 := ⟨_, rfl⟩
  have hb1 : Below w.heap.size w w1 := by rw [← ew1]; exact (Below.refl _ _).alloc (Nat.le_refl _) _
  have HB1 := Lib.hid hb1
  have hx : Blk w1 w.heap.size 37 #[.int .u64 (e : Int), .slice A n cap] := by rw [← ew1]; exact Blk.new w _ _
  have HX := Lib.hid hx
  have HZ := Lib.hid (show w.heap.size < w1.heap.size from hx.lt)
  have hst0 := Lib.hid (Row2.start w1)
  clear hb1 hx
  unfold mapV
  go_enter Try.func5, Try.ntmps5
  go_wp2
  clear ew1
  go_loopw [5, 6, 7] (fun vo vi _ wr => ∃ k : Nat, k ≤ n ∧ vi = .int .i64 k ∧ Hid (Row2 w1 vo (dbl ms k) wr) ∧ Hid (∀ i, i < k → Sml (ms.getD i (0, 0)).2)) (fun _ vi _ _ => n - (intOf vi).toNat)
  case atStart => exact ⟨0, by omega, rfl, hst0, Lib.hid fun i hi => absurd hi (by omega)⟩
  case round =>
    obtain ⟨k, hk, rfl, hst, HSM⟩ := hrel
    clear hst0
    have hx1 : wr.cell? ⟨w.heap.size, 1, none⟩ = some (.slice A n cap) := (HX.out.below hst.out.bel HZ.out).cell 1
    have hbr := HB1.out.trans (hst.out.bel.mono HB1.out.size)
    by_cases hlt : k < n
    · have d1 : decide (k < n) = true := decide_eq_true hlt
      obtain ⟨a1, rfl, hb1, hc1, hc2⟩ := (HR.out.below hbr).mem hlt
      have HS := Lib.hid (dbl_succ ms k)
      have HN := Lib.hid (dbl_len ms k)
      have HSN := Lib.hid (fun (h : Sml (ms.getD k (0, 0)).2) => (fun i hi => by
        rcases Nat.lt_or_ge i k with h1 | h1
        · exact HSM.out i h1
        · obtain rfl : i = k := by omega
          exact h : ∀ i, i < k + 1 → Sml (ms.getD i (0, 0)).2))
      obtain ⟨p, ex⟩ : ∃ p, ms.getD k (0, 0) = p := ⟨_, rfl⟩
      rw [ex] at hc1 hc2 HS
      have HEX := Lib.hid ex
      clear ex
      obtain ⟨mid, wt⟩ := p
      simp only at hc1 hc2 HS
      obtain ⟨w5, ew5⟩ : ∃ w5, wr.alloc (.cells #[.int .i64 mid, .int .i64 wt] 39) = w5 := ⟨_, rfl⟩
      have hB5 : Blk w5 wr.heap.size 39 #[.int .i64 mid, .int .i64 wt] := by rw [← ew5]; exact Blk.new wr _ _
      have m0 : w5.cell? ⟨wr.heap.size, 0, none⟩ = some (.int .i64 mid) := hB5.cell 0
      have m1 : w5.cell? ⟨wr.heap.size, 1, none⟩ = some (.int .i64 wt) := hB5.cell 1
      have f1 : w5.frozen? ⟨wr.heap.size, 1, none⟩ = false := hB5.frozen 1
      have hb5 : Below wr.heap.size wr w5 := by rw [← ew5]; exact (Below.refl _ _).alloc (Nat.le_refl _) _
      have HB5 := Lib.hid hB5
      have HBR := Lib.hid hbr
      by_cases hs : 0 ≤ wt ∧ wt < 4503599627370496
      · have d2 : decide (wt < 0) = false := decide_eq_false (by omega)
        have d3 : decide (wt ≥ 4503599627370496) = false := decide_eq_false (by omega)
        have d4 : decide (4503599627370496 ≤ wt) = false := decide_eq_false (by omega)
        have s0 : 0 ≤ wt := hs.1
        have s1 : wt ≤ 4503599627370495 := by omega
        have HSW := Lib.hid (HSN.out (by rw [HEX.out]; exact hs))
        have ho6 := Only.set_ w5 wr.heap.size 1 (.int .i64 (2 * wt))
        have hB6 := HB5.out.set_ 1 (.int .i64 (2 * wt))
        have HNE := Lib.hid (show u5.ownBlock ≠ some wr.heap.size from fun h => by have := (hst.out.own.lt _ h).2; omega)
        have HR5 := hst.out.later hb5
        have HR6 := Lib.hid (HR5.only ho6 HNE.out hst.out.bel.size)
        obtain ⟨w6, ew6⟩ : ∃ w6, w5.setCell ⟨wr.heap.size, 1, none⟩ (.int .i64 (2 * wt)) = w6 := ⟨_, rfl⟩
        rw [ew6] at HR6 hB6 ho6
        have n0 : w6.cell? ⟨wr.heap.size, 0, none⟩ = some (.int .i64 mid) := hB6.cell 0
        have n1 : w6.cell? ⟨wr.heap.size, 1, none⟩ = some (.int .i64 (2 * wt)) := hB6.cell 1
        clear hs HR5 ho6 hB6 hB5 hb5 hbr hst HSN HSM
        go_wp2_with (
             at_builtin
             refine wpl_row2 rfl _ _ rfl HR6.out (by rw [HN.out]; omega) mid (2 * wt) rfl rfl ?_
             intro v6 w7 hst6)
        exact ⟨⟨k + 1, by omega, by go_num, by rw [HS.out]; exact hst6, HSW⟩, by simp [intOf]; omega⟩
      · have aux : decide (wt < 0) = true ∨ (decide (wt < 0) = false ∧ decide (wt ≥ 4503599627370496) = true) := by
          simp only [decide_eq_true_eq, decide_eq_false_iff_not]; omega
        have HBE := Lib.hid (hbr.trans (hb5.mono hbr.size))
        clear hs hB5 hb5 hbr hst HSN HSM
        rcases aux with d2 | ⟨d2, d3⟩
        all_goals
          go_wp2_with (go_at_call 14; refine (heads_any _).mono ?_; rintro e w8 ⟨rfl, hb8⟩; have HB8 := Lib.hid hb8; clear hb8)
          go_ret
          exact ⟨rfl, HBE.out.trans (HB8.out.mono HBE.out.size)⟩
    · obtain rfl : n = k := by omega
      have ho := hst.out.own
      rw [dbl_len] at ho
      obtain ⟨A1, c1, rfl, hc1, hc2⟩ := own_slice ho
      have HRD := Lib.hid (Reads.of_own ho)
      have HBR := Lib.hid hbr
      have HRW := Lib.hid (HR.out.later hbr)
      have HCW := Lib.hid (HC.out.later hbr)
      have HXW := Lib.hid (HX.out.below hst.out.bel HZ.out)
      have HZW := Lib.hid (show w.heap.size < wr.heap.size from Nat.lt_of_lt_of_le HZ.out hst.out.bel.size)
      clear ho hbr hst hc1 hc2
      obtain ⟨w2, rfl⟩ : ∃ w2 : World, w2 = wr := ⟨_, rfl⟩
      have hst0 := Lib.hid (Ap.start w2 3)
      go_wp2
      clear hx1
      go_loopw [8, 9] (fun vo vi wr => ∃ k : Nat, k ≤ m ∧ vi = .int .i64 k ∧ Hid (Ap w2 3 vo ((dbc cs k).map iv) wr) ∧ Hid (∀ i, i < k → Sml (cs.getD i 0))) (fun _ vi _ => m - (intOf vi).toNat)
      case atStart => exact ⟨0, by omega, rfl, hst0, Lib.hid fun i hi => absurd hi (by omega)⟩
      case round =>
        obtain ⟨k, hk, rfl, hst, HSC⟩ := hrel
        clear hst0
        by_cases hlt2 : k < m
        · have d1 : decide (k < m) = true := decide_eq_true hlt2
          obtain ⟨a2, rfl, hb2, hc3⟩ := (HCW.out.below hst.out.bel).int_ hlt2
          have HS := Lib.hid (dbc_succ cs k)
          have HN := Lib.hid (dbc_len cs k)
          have HSN := Lib.hid (fun (h : Sml (cs.getD k 0)) => (fun i hi => by
            rcases Nat.lt_or_ge i k with h1 | h1
            · exact HSC.out i h1
            · obtain rfl : i = k := by omega
              exact h : ∀ i, i < k + 1 → Sml (cs.getD i 0)))
          obtain ⟨c, ec⟩ : ∃ c, cs.getD k 0 = c := ⟨_, rfl⟩
          rw [ec] at hc3 HS
          have HEX := Lib.hid ec
          clear ec
          by_cases hs : 0 ≤ c ∧ c < 4503599627370496
          · have d2 : decide (c < 0) = false := decide_eq_false (by omega)
            have d3 : decide (c ≥ 4503599627370496) = false := decide_eq_false (by omega)
            have s0 : 0 ≤ c := hs.1
            have s1 : c ≤ 4503599627370495 := by omega
            have HSW := Lib.hid (HSN.out (by rw [HEX.out]; exact hs))
            clear hs HSN HSC
            go_wp2_with (
                 at_builtin
                 refine wpl_ap rfl _ _ 29 3 _ Try.underlying29 Try.infoI64 rfl rfl hst.out (by rw [List.length_map, HN.out]; omega) (.int .i64 (2 * c)) rfl rfl rfl ?_
                 intro v6 w7 hst6)
            exact ⟨⟨k + 1, by omega, by go_num, by rw [HS.out, List.map_append]; exact hst6, HSW⟩, by simp [intOf]; omega⟩
          · have aux : decide (c < 0) = true ∨ (decide (c < 0) = false ∧ decide (c ≥ 4503599627370496) = true) := by
              simp only [decide_eq_true_eq, decide_eq_false_iff_not]; omega
            have HBE := Lib.hid (HBR.out.trans (hst.out.bel.mono HBR.out.size))
            clear hs hst HSN HSC
            rcases aux with d2 | ⟨d2, d3⟩
            all_goals
              go_wp2_with (go_at_call 14; refine (heads_any _).mono ?_; rintro e w8 ⟨rfl, hb8⟩; have HB8 := Lib.hid hb8; clear hb8)
              go_ret
              exact ⟨rfl, HBE.out.trans (HB8.out.mono HBE.out.size)⟩
        · obtain rfl : m = k := by omega
          have d1 : decide (m < m) = false := decide_eq_false hlt2
          have ho := hst.out.own
          rw [List.length_map, dbc_len] at ho
          obtain ⟨A3, c3, rfl, hc3, hc4⟩ := own_slice ho
          have HRC := Lib.hid (Reads.of_own ho)
          have HBX := Lib.hid hst.out.bel
          have hbx := HXW.out.below hst.out.bel HZW.out
          have k0 : wr.cell? ⟨w.heap.size, 0, none⟩ = some (.int .u64 (e : Int)) := hbx.cell 0
          have k1 : wr.cell? ⟨w.heap.size, 1, none⟩ = some (.slice A n cap) := hbx.cell 1
          have HR3 := Lib.hid (HRW.out.later hst.out.bel)
          have HC3 := Lib.hid (HCW.out.later hst.out.bel)
          have HD3 := Lib.hid (HRD.out.later hst.out.bel)
          have HET := Lib.hid (lds_twice hcl.out HSM.out HSC.out)
          have HML := Lib.hid (show m ≤ 9223372036854775807 from by omega)
          have X1 := Lib.hid (fun W (h : Below wr.heap.size wr W) => loads_any e A n cap ms C m cc cs W (Lib.hid (HR3.out.later h)) (Lib.hid (HC3.out.later h)) hl hcl hn HML.out)
          have X2 := Lib.hid (fun W (h : Below wr.heap.size wr W) => loads_any e A1 n c1 (dbl ms n) A3 m c3 (dbc cs m) W (Lib.hid (HD3.out.later h)) (Lib.hid (HRC.out.later h)) (Lib.hid (dbl_len ms n)) (Lib.hid (dbc_len cs m)) hn HML.out)
          rw [HET.out] at X2
          have HLL := Lib.hid (lds_len ms cs n)
          generalize lds ms cs n = cl at *
          unfold mapV at X1 X2
          have HK := Lib.hid (fun (W : World) (h : Below wr.heap.size wr W) => (⟨cell_later h k0, cell_later h k1⟩ : _ ∧ _))
          have tk1 : True := trivial
          clear hbx ho hst HET
          go_wp2
          go_region_held3 (fun w' => w'.cell? ⟨w.heap.size, 0, none⟩ = some (.int .u64 (e : Int)) ∧ w'.cell? ⟨w.heap.size, 1, none⟩ = some (.slice A n cap)) (first | exact ⟨k0, k1⟩ | exact KC | fail) (first
            | (have _t := tk1; go_at_call 18; refine (X1.out _ (by exact ⟨rfl, rfl, rfl, Nat.le_refl _, fun _ _ => rfl⟩)).mono ?_; rintro e w12 ⟨v, rs, rfl, HFS⟩; obtain ⟨A5, c5, rfl, RD⟩ := HFS.reads HLL.out; have HE1 := Lib.hid HFS.cl; have RD1 := Lib.hid RD; have HB2 := Lib.hid (show Below wr.heap.size wr w12 from by first | exact HFS.ap.bel | exact undrew HFS.ap.bel); have KC := HK.out _ HB2.out; clear HFS RD tk1 _t)
            | (go_at_call 18; refine (X2.out _ (by exact HB2.out)).mono ?_; rintro e w13 ⟨v, rs', rfl, HFS⟩; obtain ⟨A6, c6, rfl, RD⟩ := HFS.reads HLL.out; have HE2 := Lib.hid (HE1.out.trans HFS.cl.symm); have RD2 := Lib.hid RD; have HS3 := Lib.hid (show Below w12.heap.size w12 w13 from by first | exact HFS.ap.bel | exact undrew HFS.ap.bel); have HB3 := Lib.hid (HB2.out.trans (HS3.out.mono HB2.out.size)); have RD3 := Lib.hid (RD1.out.later HS3.out); have KC := HK.out _ HB3.out; clear HFS RD)
            | (go_at_call 17; refine (rows_any A5 A6 n c5 c6 rs rs' _ RD3 RD2 HE2 (by omega)).mono ?_; rintro e w14 ⟨rfl, hb⟩; have HS4 := Lib.hid (show Below w13.heap.size w13 w14 from by first | exact hb | exact undrew hb); have HB4 := Lib.hid (HB3.out.trans (HS4.out.mono HB3.out.size)); have KC := HK.out _ HB4.out; clear hb)
            | (go_at_call 14; refine (heads_any _).mono ?_; rintro e w15 ⟨rfl, hb⟩; have HS5 := Lib.hid (show Below w14.heap.size w14 w15 from by first | exact hb | exact undrew hb); have HB5 := Lib.hid (HB4.out.trans (HS5.out.mono HB4.out.size)); have KC := HK.out _ HB5.out; clear hb))
          go_wp2
          go_ret
          exact ⟨rfl, HBR.out.trans ((HBX.out.trans (HB5.out.mono HBX.out.size)).mono HBR.out.size)⟩
end Go.Proofs.Ytckmmcklhdfjfaa
