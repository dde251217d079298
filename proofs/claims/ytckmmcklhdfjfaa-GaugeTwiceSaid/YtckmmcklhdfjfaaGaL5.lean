/-
  Share, the program's and the reference's. (printed by gen_gal5.py)
-/
import Derived.Test.YtckmmcklhdfjfaaGaL4
import Derived.Test.YtckmmcklhdfjfaaGaM3
namespace Go.Proofs.Ytckmmcklhdfjfaa
open Go.RowKit
set_option linter.unusedVariables false
/-- The weight of the first member of this id, as a float. -/
def shTo (ms : List Mem) (id : Int) : Nat → Option Nat
  | 0 => none
  | k + 1 => match shTo ms id k with
    | some x => some x
    | none => if (ms.getD k (0, 0)).1 = id then some (fl (ms.getD k (0, 0)).2) else none
def wfl (ms : List Mem) (n : Nat) : List Nat := (List.range n).map fun k => fl (ms.getD k (0, 0)).2
theorem wfl_succ (ms : List Mem) (n : Nat) : wfl ms (n + 1) = wfl ms n ++ [fl (ms.getD n (0, 0)).2] := by unfold wfl; rw [List.range_succ, List.map_append]; rfl
theorem wfl_len (ms : List Mem) (n : Nat) : (wfl ms n).length = n := by simp [wfl]
theorem shTo_num (ms : List Mem) (id : Int) : ∀ k x, shTo ms id k = some x → nanb x = false ∧ x < 2 ^ 64
  | 0, x, h => by cases h
  | k + 1, x, h => by
    unfold shTo at h
    cases hs : shTo ms id k with
    | some y => rw [hs] at h; cases h; exact shTo_num ms id k x hs
    | none =>
      rw [hs] at h
      simp only at h
      split at h
      · cases h; exact ⟨fl_num _, fl_lt _⟩
      · cases h
def shV : Option Nat → Nat
  | none => 9221120237041090561
  | some x => x
theorem shV_nan (ms : List Mem) (id : Int) (k : Nat) : nanb (shV (shTo ms id k)) = (shTo ms id k).isNone := by
  cases h : shTo ms id k with
  | none => decide
  | some x => exact (shTo_num ms id k x h).1
def share (ms : List Mem) (id : Int) (n : Nat) : Option Nat := ratio (cls ((shTo ms id n).getD 0)) (fsum (wfl ms n))
/-- A row that grows by one; which block may have turned besides. -/
theorem wpl_ap2 {ops : Array Oper} {rest : List Oper} {o : Oper} {a : Act} {Q : Exit → Act → World → Prop} {w wr : World} {v : Value} {xs : List Value} (hg : o.guard = none) (s x : Operand) (ts te : TypeId) (z : Value)
    (hts : Try.prog.underlying ts = some (.slice te)) (hinfo : (Try.prog.info? te).map (fun i => (i.zero, i.size, i.bytes)) = some (some z, 1, 8)) (hz : z.cells.size = 1)
    (ho : o.op = .call { callee := .builtin .append, args := #[s, x], argTypes := #[ts, ts] }) (hst : Ap w te v xs wr) (hl : xs.length * 8 ≤ 140737488351232) (u : Value) (hu : u.oneCell' = true) (hs : a.eval s = v) (hx : a.eval x = .slice (some ⟨wr.heap.size, 0, none⟩) 1 1)
    (h : ∀ v' w', Hid (Ap w te v' (xs ++ [u]) w') → Hid ((wr.alloc (.cells #[u] te)).grownBy w' v.ownBlock) → wpList Try.prog ops Q rest (a.put o.dst v') w') : wpList Try.prog ops Q (o :: rest) a (wr.alloc (.cells #[u] te)) := by
  have hb1 : Below w.heap.size w (wr.alloc (.cells #[u] te)) := hst.bel.alloc hst.bel.size _
  have hst' : Ap w te v xs (wr.alloc (.cells #[u] te)) := ⟨hst.own.alloc _, hb1⟩
  obtain ⟨i, hi, h2, h3, h4⟩ := info_parts hinfo
  refine wpList_append_any _ hg s x ts ho w.heap.size te i z 1 8 hts hi h2 h3 h4 hz (by decide) v xs.length xs hs hst'.own (wr.heap.size + 1) (some ⟨wr.heap.size, 0, none⟩) 1 1 [u] hx (Reads.lit1 wr te u) (by intro y hy; rw [List.mem_singleton.1 hy]; exact hu) (by unfold maxLen; omega) (by omega) hb1.size
    fun v' w' k1 k2 _ => h v' w' (Lib.hid ⟨by simpa using k1, bel_grown_own hb1 hb1.size hst'.own k2⟩) (Lib.hid k2)
/-- A block that the row is not. -/
theorem blk_far {w wr w' : World} {te : TypeId} {v u : Value} {xs : List Value} {g : Nat} {t : TypeId} {cs : Array Value} (hB : Blk wr g t cs) (hst : wr.ownsRow w.heap.size te 1 v xs.length xs) (hne : v.ownBlock ≠ some g) (hg : (wr.alloc (.cells #[u] te)).grownBy w' v.ownBlock) : Blk w' g t cs :=
  (hB.alloc _).grown hg (fun e => hne e.symm)
set_option maxRecDepth 100000 in
set_option maxHeartbeats 4000000 in
theorem share_any (e : Nat) (A : Option Addr) (n cap : Nat) (ms : List Mem) (id : Int) (w : World) (HR : Hid (Reads w w.heap.size 2 A n (mcells ms))) (hl : Hid (ms.length = n)) (hn : n * 16 ≤ 140737488351232) :
    Calls Try.prog 22 #[mapV e A n cap, .int .i64 id] w fun e w' => ∃ r, e = .returned (.float .f64 r) ∧ cls r = share ms id n ∧ Below w.heap.size w w' := by
  obtain ⟨w1, ew1⟩ : ∃ w1, w.alloc (.cells #[.int .u64 (e : Int), .slice A n cap] 37) = w1 := ⟨_, rfl⟩
  have hb1 : Below w.heap.size w w1 := by rw [← ew1]; exact (Below.refl _ _).alloc (Nat.le_refl _) _
  have HB1 := Lib.hid hb1
  have hst0 := Lib.hid (Ap.start w1 23)
  have hx : Blk w1 w.heap.size 37 #[.int .u64 (e : Int), .slice A n cap] := by rw [← ew1]; exact Blk.new w _ _
  have hx0 : w1.cell? ⟨w.heap.size, 0, none⟩ = some (.int .u64 (e : Int)) := hx.cell 0
  have hx1 : w1.cell? ⟨w.heap.size, 1, none⟩ = some (.slice A n cap) := hx.cell 1
  have HSN := Lib.hid (shV_nan ms id)
  clear hb1 hx
  unfold mapV
  go_enter Try.func22, Try.ntmps22
  go_wp2_with (go_at_call 26; refine (nan_any _).mono ?_; rintro e w' ⟨rfl, hw'⟩; rw [hw']; clear hw')
  clear ew1 hx0 hx1
  go_loopw [5, 6, 8, 13] (fun vo vw _ vi wr => ∃ k x : Nat, k ≤ n ∧ vi = .int .i64 k ∧ vw = .float .f64 x ∧ Hid (x = shV (shTo ms id k)) ∧ Hid (Ap w1 23 vo ((wfl ms k).map fv) wr)) (fun _ _ _ vi _ => n - (intOf vi).toNat)
  case atStart => exact ⟨0, _, by omega, rfl, rfl, Lib.hid rfl, hst0⟩
  case round =>
    obtain ⟨k, x, hk, rfl, rfl, HX, hst⟩ := hrel
    clear hst0
    have N1 := isnan_any x
    by_cases hlt : k < n
    · have d1 : decide (k < n) = true := decide_eq_true hlt
      have hbr := HB1.out.trans (hst.out.bel.mono HB1.out.size)
      obtain ⟨a1, rfl, hb1, hc1, hc2⟩ := (HR.out.below hbr).mem hlt
      have HS := Lib.hid (wfl_succ ms k)
      have HN := Lib.hid (wfl_len ms k)
      obtain ⟨p, ex⟩ : ∃ p, ms.getD k (0, 0) = p := ⟨_, rfl⟩
      rw [ex] at hc1 hc2 HS
      obtain ⟨mid, wt⟩ := p
      simp only at hc1 hc2 HS
      have HT := Lib.hid (show shTo ms id (k + 1) = match shTo ms id k with | some x => some x | none => if mid = id then some (fl wt) else none from by rw [shTo, ex])
      clear ex
      have hn1 := HSN.out k
      rw [← HX.out] at hn1
      rw [hn1] at N1
      clear hn1
      obtain ⟨w2, ew2⟩ : ∃ w2, wr.alloc (.cells #[.int .i64 mid, .int .i64 wt] 39) = w2 := ⟨_, rfl⟩
      have hB2 : Blk w2 wr.heap.size 39 #[.int .i64 mid, .int .i64 wt] := by rw [← ew2]; exact Blk.new wr _ _
      have m0 : w2.cell? ⟨wr.heap.size, 0, none⟩ = some (.int .i64 mid) := hB2.cell 0
      have m1 : w2.cell? ⟨wr.heap.size, 1, none⟩ = some (.int .i64 wt) := hB2.cell 1
      have HF := Lib.hid (show Ap w1 23 u5 ((wfl ms k).map fv) w2 from by rw [← ew2]; exact hst.out.later ((Below.refl _ _).alloc (Nat.le_refl _) _))
      have HNE := Lib.hid (show u5.ownBlock ≠ some wr.heap.size from fun h => by have := (hst.out.own.lt _ h).2; omega)
      have HB2 := Lib.hid hB2
      clear hB2 hst
      by_cases hid : mid = id
      · have di : decide (mid = id) = true := decide_eq_true hid
        have db : (mid == id) = true := beq_iff_eq.2 hid
        have HID := Lib.hid hid
        clear hid
        cases hs : shTo ms id k with
        | none =>
          rw [hs] at HT N1
          simp only [Option.isNone] at HT N1
          rw [if_pos HID.out] at HT
          clear hs
          go_wp2_with (first
            | (at_builtin
               refine wpl_ap2 rfl _ _ 22 23 _ Try.underlying22 Try.infoF64 rfl rfl HF.out (by rw [List.length_map, HN.out]; omega) (.float .f64 (fl wt)) rfl rfl rfl ?_
               intro v6 w6 hst6 hg6
               have hB6 := blk_far HB2.out HF.out.own HNE.out hg6.out
               have m2 : w6.cell? ⟨wr.heap.size, 0, none⟩ = some (.int .i64 mid) := hB6.cell 0
               have m3 : w6.cell? ⟨wr.heap.size, 1, none⟩ = some (.int .i64 wt) := hB6.cell 1
               clear hB6 hg6 m0 m1 ew2 hc1 hc2)
            | (go_at_call 16; refine (N1 _).mono ?_; rintro e w' ⟨rfl, rfl⟩))
          exact ⟨⟨k + 1, _, by omega, by go_num, rfl, Lib.hid (by rw [HT.out]; rfl), Lib.hid (by rw [HS.out, List.map_append]; exact hst6.out)⟩, by simp [intOf]; omega⟩
        | some y =>
          rw [hs] at HT N1
          simp only [Option.isNone] at HT N1
          have HSS := Lib.hid hs
          clear hs
          go_wp2_with (first
            | (at_builtin
               refine wpl_ap2 rfl _ _ 22 23 _ Try.underlying22 Try.infoF64 rfl rfl HF.out (by rw [List.length_map, HN.out]; omega) (.float .f64 (fl wt)) rfl rfl rfl ?_
               intro v6 w6 hst6 hg6
               have hB6 := blk_far HB2.out HF.out.own HNE.out hg6.out
               have m2 : w6.cell? ⟨wr.heap.size, 0, none⟩ = some (.int .i64 mid) := hB6.cell 0
               have m3 : w6.cell? ⟨wr.heap.size, 1, none⟩ = some (.int .i64 wt) := hB6.cell 1
               clear hB6 hg6 m0 m1 ew2 hc1 hc2)
            | (go_at_call 16; refine (N1 _).mono ?_; rintro e w' ⟨rfl, rfl⟩))
          exact ⟨⟨k + 1, _, by omega, by go_num, rfl, Lib.hid (by rw [HT.out, HX.out, HSS.out]), Lib.hid (by rw [HS.out, List.map_append]; exact hst6.out)⟩, by simp [intOf]; omega⟩
      · have di : decide (mid = id) = false := decide_eq_false hid
        have db : (mid == id) = false := beq_false_of_ne hid
        cases hs : shTo ms id k with
        | none =>
          rw [hs] at HT N1
          simp only [Option.isNone] at HT N1
          rw [if_neg hid] at HT
          have HSS := Lib.hid hs
          clear hs hid
          go_wp2_with (first
            | (at_builtin
               refine wpl_ap2 rfl _ _ 22 23 _ Try.underlying22 Try.infoF64 rfl rfl HF.out (by rw [List.length_map, HN.out]; omega) (.float .f64 (fl wt)) rfl rfl rfl ?_
               intro v6 w6 hst6 hg6
               have hB6 := blk_far HB2.out HF.out.own HNE.out hg6.out
               have m2 : w6.cell? ⟨wr.heap.size, 0, none⟩ = some (.int .i64 mid) := hB6.cell 0
               have m3 : w6.cell? ⟨wr.heap.size, 1, none⟩ = some (.int .i64 wt) := hB6.cell 1
               clear hB6 hg6 m0 m1 ew2 hc1 hc2)
            | (go_at_call 16; refine (N1 _).mono ?_; rintro e w' ⟨rfl, rfl⟩))
          exact ⟨⟨k + 1, _, by omega, by go_num, rfl, Lib.hid (by rw [HT.out, HX.out, HSS.out]), Lib.hid (by rw [HS.out, List.map_append]; exact hst6.out)⟩, by simp [intOf]; omega⟩
        | some y =>
          rw [hs] at HT N1
          simp only [Option.isNone] at HT N1
          have HSS := Lib.hid hs
          clear hs hid
          go_wp2_with (first
            | (at_builtin
               refine wpl_ap2 rfl _ _ 22 23 _ Try.underlying22 Try.infoF64 rfl rfl HF.out (by rw [List.length_map, HN.out]; omega) (.float .f64 (fl wt)) rfl rfl rfl ?_
               intro v6 w6 hst6 hg6
               have hB6 := blk_far HB2.out HF.out.own HNE.out hg6.out
               have m2 : w6.cell? ⟨wr.heap.size, 0, none⟩ = some (.int .i64 mid) := hB6.cell 0
               have m3 : w6.cell? ⟨wr.heap.size, 1, none⟩ = some (.int .i64 wt) := hB6.cell 1
               clear hB6 hg6 m0 m1 ew2 hc1 hc2)
            | (go_at_call 16; refine (N1 _).mono ?_; rintro e w' ⟨rfl, rfl⟩))
          exact ⟨⟨k + 1, _, by omega, by go_num, rfl, Lib.hid (by rw [HT.out, HX.out, HSS.out]), Lib.hid (by rw [HS.out, List.map_append]; exact hst6.out)⟩, by simp [intOf]; omega⟩
    · obtain rfl : n = k := by omega
      have ho := hst.out.own
      rw [List.length_map, wfl_len] at ho
      obtain ⟨A1, c1, rfl, hc1, hc2⟩ := own_slice ho
      have HRD := Lib.hid (Reads.of_own ho)
      have HBE := Lib.hid (HB1.out.trans (hst.out.bel.mono HB1.out.size))
      have HWL := Lib.hid (wfl_len ms n)
      clear ho hst
      cases hs : shTo ms id n with
      | none =>
        have HSS := Lib.hid hs
        have hn1 := HSN.out n
        rw [← HX.out, hs] at hn1
        simp only [Option.isNone] at hn1
        rw [hn1] at N1
        clear hn1
        clear hs
        go_wp2_with (first
          | (go_at_call 16; refine (N1 _).mono ?_; rintro e w' ⟨rfl, rfl⟩)
          | (go_at_call 8; refine (sum_any A1 n c1 (wfl ms n) _ HRD HWL (by omega)).mono ?_; rintro e w' ⟨r, d, rfl, hcr, hr, rfl⟩; have HCR := Lib.hid hcr; clear hcr)
          | (go_at_call 12; refine (ratio_any _ _ _).mono ?_; rintro e w' ⟨r2, d2, rfl, hcr2, hr2, rfl⟩; have HCR2 := Lib.hid hcr2; clear hcr2))
        go_ret
        exact ⟨_, rfl, by rw [HCR2.out, HCR.out]; unfold share; rw [HSS.out]; rfl, bel_drewN HBE.out _⟩
      | some y =>
        have HSS := Lib.hid hs
        have hn1 := HSN.out n
        rw [← HX.out, hs] at hn1
        simp only [Option.isNone] at hn1
        rw [hn1] at N1
        clear hn1
        clear hs
        go_wp2_with (first
          | (go_at_call 16; refine (N1 _).mono ?_; rintro e w' ⟨rfl, rfl⟩)
          | (go_at_call 8; refine (sum_any A1 n c1 (wfl ms n) _ HRD HWL (by omega)).mono ?_; rintro e w' ⟨r, d, rfl, hcr, hr, rfl⟩; have HCR := Lib.hid hcr; clear hcr)
          | (go_at_call 12; refine (ratio_any _ _ _).mono ?_; rintro e w' ⟨r2, d2, rfl, hcr2, hr2, rfl⟩; have HCR2 := Lib.hid hcr2; clear hcr2))
        go_ret
        exact ⟨_, rfl, by rw [HCR2.out, HCR.out, HX.out]; unfold share; rw [HSS.out]; rfl, bel_drewN HBE.out _⟩

set_option maxRecDepth 100000 in
set_option maxHeartbeats 4000000 in
theorem rshare_any (e : Nat) (A : Option Addr) (n cap : Nat) (ms : List Mem) (id : Int) (w : World) (HR : Hid (Reads w w.heap.size 2 A n (mcells ms))) (hl : Hid (ms.length = n)) (hn : n * 16 ≤ 140737488351232) :
    Calls Try.prog 23 #[mapV e A n cap, .int .i64 id] w fun e w' => ∃ r, e = .returned (.float .f64 r) ∧ cls r = share ms id n ∧ Below w.heap.size w w' := by
  obtain ⟨w1, ew1⟩ : ∃ w1, w.alloc (.cells #[.int .u64 (e : Int), .slice A n cap] 37) = w1 := ⟨_, rfl⟩
  have hb1 : Below w.heap.size w w1 := by rw [← ew1]; exact (Below.refl _ _).alloc (Nat.le_refl _) _
  have HB1 := Lib.hid hb1
  have hst0 := Lib.hid (Ap.start w1 23)
  have hx : Blk w1 w.heap.size 37 #[.int .u64 (e : Int), .slice A n cap] := by rw [← ew1]; exact Blk.new w _ _
  have HX := Lib.hid hx
  have HZ := Lib.hid (show w.heap.size < w1.heap.size from hx.lt)
  clear hb1 hx
  unfold mapV
  go_enter Try.func23, Try.ntmps23
  go_wp2
  clear ew1
  go_loopw [5, 6, 7, 8] (fun vo vw vf vi wr => ∃ k x : Nat, ∃ fd : Bool, k ≤ n ∧ vi = .int .i64 k ∧ vw = .float .f64 x ∧ vf = .bool fd ∧ Hid (x = (shTo ms id k).getD 0) ∧ Hid (fd = (shTo ms id k).isSome) ∧ Hid (Ap w1 23 vo ((wfl ms k).map fv) wr)) (fun _ _ _ vi _ => n - (intOf vi).toNat)
  case atStart => exact ⟨0, _, false, by omega, rfl, rfl, rfl, Lib.hid rfl, Lib.hid rfl, hst0⟩
  case round =>
    obtain ⟨k, x, fd, hk, rfl, rfl, rfl, HXX, HFD, hst⟩ := hrel
    clear hst0
    have hx1 : wr.cell? ⟨w.heap.size, 1, none⟩ = some (.slice A n cap) := (HX.out.below hst.out.bel HZ.out).cell 1
    by_cases hlt : k < n
    · have d1 : decide (k < n) = true := decide_eq_true hlt
      have hbr := HB1.out.trans (hst.out.bel.mono HB1.out.size)
      obtain ⟨a1, rfl, hb1, hc1, hc2⟩ := (HR.out.below hbr).mem hlt
      have HS := Lib.hid (wfl_succ ms k)
      have HN := Lib.hid (wfl_len ms k)
      obtain ⟨p, ex⟩ : ∃ p, ms.getD k (0, 0) = p := ⟨_, rfl⟩
      rw [ex] at hc1 hc2 HS
      obtain ⟨mid, wt⟩ := p
      simp only at hc1 hc2 HS
      have HT := Lib.hid (show shTo ms id (k + 1) = match shTo ms id k with | some x => some x | none => if mid = id then some (fl wt) else none from by rw [shTo, ex])
      have EX := Lib.hid ex
      clear ex
      have HLT := Lib.hid hlt
      by_cases hid : mid = id
      · have di : decide (mid = id) = true := decide_eq_true hid
        have db : (mid == id) = true := beq_iff_eq.2 hid
        have HID := Lib.hid hid
        clear hid
        cases hs : shTo ms id k with
        | none =>
          rw [hs] at HT HFD
          simp only [Option.isSome] at HT HFD
          rw [if_pos HID.out] at HT
          obtain rfl := HFD.out
          clear hs
          go_wp2_with (
             at_builtin
             refine wpl_ap2 rfl _ _ 22 23 _ Try.underlying22 Try.infoF64 rfl rfl hst.out (by rw [List.length_map, HN.out]; omega) (.float .f64 (fl wt)) rfl rfl rfl ?_
             intro v6 w6 hst6 hg6
             have hx6 : w6.cell? ⟨w.heap.size, 1, none⟩ = some (.slice (some a1) n cap) := (HX.out.below hst6.out.bel HZ.out).cell 1
             have hm6 := (HR.out.below (HB1.out.trans (hst6.out.bel.mono HB1.out.size))).mem HLT.out
             rw [EX.out] at hm6
             obtain ⟨a6, ea6, hb6, hc6, hc7⟩ := hm6
             obtain rfl := Option.some.inj ea6
             clear ea6 hg6 hc1 hc2 hx1 hst)
          exact ⟨⟨k + 1, _, _, by omega, by go_num, rfl, rfl, Lib.hid (by rw [HT.out]; rfl), Lib.hid (by rw [HT.out]; rfl), Lib.hid (by rw [HS.out, List.map_append]; exact hst6.out)⟩, by simp [intOf]; omega⟩
        | some y =>
          rw [hs] at HT HFD
          simp only [Option.isSome] at HT HFD
          obtain rfl := HFD.out
          have HSS := Lib.hid hs
          clear hs
          go_wp2_with (
             at_builtin
             refine wpl_ap2 rfl _ _ 22 23 _ Try.underlying22 Try.infoF64 rfl rfl hst.out (by rw [List.length_map, HN.out]; omega) (.float .f64 (fl wt)) rfl rfl rfl ?_
             intro v6 w6 hst6 hg6
             have hx6 : w6.cell? ⟨w.heap.size, 1, none⟩ = some (.slice (some a1) n cap) := (HX.out.below hst6.out.bel HZ.out).cell 1
             have hm6 := (HR.out.below (HB1.out.trans (hst6.out.bel.mono HB1.out.size))).mem HLT.out
             rw [EX.out] at hm6
             obtain ⟨a6, ea6, hb6, hc6, hc7⟩ := hm6
             obtain rfl := Option.some.inj ea6
             clear ea6 hg6 hc1 hc2 hx1 hst)
          exact ⟨⟨k + 1, _, _, by omega, by go_num, rfl, rfl, Lib.hid (by rw [HT.out, HXX.out, HSS.out]), Lib.hid (by rw [HT.out]; rfl), Lib.hid (by rw [HS.out, List.map_append]; exact hst6.out)⟩, by simp [intOf]; omega⟩
      · have di : decide (mid = id) = false := decide_eq_false hid
        have db : (mid == id) = false := beq_false_of_ne hid
        cases hs : shTo ms id k with
        | none =>
          rw [hs] at HT HFD
          simp only [Option.isSome] at HT HFD
          rw [if_neg hid] at HT
          obtain rfl := HFD.out
          have HSS := Lib.hid hs
          clear hs hid
          go_wp2_with (
             at_builtin
             refine wpl_ap2 rfl _ _ 22 23 _ Try.underlying22 Try.infoF64 rfl rfl hst.out (by rw [List.length_map, HN.out]; omega) (.float .f64 (fl wt)) rfl rfl rfl ?_
             intro v6 w6 hst6 hg6
             have hx6 : w6.cell? ⟨w.heap.size, 1, none⟩ = some (.slice (some a1) n cap) := (HX.out.below hst6.out.bel HZ.out).cell 1
             have hm6 := (HR.out.below (HB1.out.trans (hst6.out.bel.mono HB1.out.size))).mem HLT.out
             rw [EX.out] at hm6
             obtain ⟨a6, ea6, hb6, hc6, hc7⟩ := hm6
             obtain rfl := Option.some.inj ea6
             clear ea6 hg6 hc1 hc2 hx1 hst)
          exact ⟨⟨k + 1, _, _, by omega, by go_num, rfl, rfl, Lib.hid (by rw [HT.out, HXX.out, HSS.out]), Lib.hid (by rw [HT.out]; rfl), Lib.hid (by rw [HS.out, List.map_append]; exact hst6.out)⟩, by simp [intOf]; omega⟩
        | some y =>
          rw [hs] at HT HFD
          simp only [Option.isSome] at HT HFD
          obtain rfl := HFD.out
          have HSS := Lib.hid hs
          clear hs hid
          go_wp2_with (
             at_builtin
             refine wpl_ap2 rfl _ _ 22 23 _ Try.underlying22 Try.infoF64 rfl rfl hst.out (by rw [List.length_map, HN.out]; omega) (.float .f64 (fl wt)) rfl rfl rfl ?_
             intro v6 w6 hst6 hg6
             have hx6 : w6.cell? ⟨w.heap.size, 1, none⟩ = some (.slice (some a1) n cap) := (HX.out.below hst6.out.bel HZ.out).cell 1
             have hm6 := (HR.out.below (HB1.out.trans (hst6.out.bel.mono HB1.out.size))).mem HLT.out
             rw [EX.out] at hm6
             obtain ⟨a6, ea6, hb6, hc6, hc7⟩ := hm6
             obtain rfl := Option.some.inj ea6
             clear ea6 hg6 hc1 hc2 hx1 hst)
          exact ⟨⟨k + 1, _, _, by omega, by go_num, rfl, rfl, Lib.hid (by rw [HT.out, HXX.out, HSS.out]), Lib.hid (by rw [HT.out]; rfl), Lib.hid (by rw [HS.out, List.map_append]; exact hst6.out)⟩, by simp [intOf]; omega⟩
    · obtain rfl : n = k := by omega
      have ho := hst.out.own
      rw [List.length_map, wfl_len] at ho
      obtain ⟨A1, c1, rfl, hc1, hc2⟩ := own_slice ho
      have HRD := Lib.hid (Reads.of_own ho)
      have HBE := Lib.hid (HB1.out.trans (hst.out.bel.mono HB1.out.size))
      have HWL := Lib.hid (wfl_len ms n)
      clear ho hst
      go_wp2_with (first
        | (go_at_call 9; refine (rsum_any A1 n c1 (wfl ms n) _ HRD HWL (by omega)).mono ?_; rintro e w' ⟨r, d, rfl, hcr, hr, rfl⟩; have HCR := Lib.hid hcr; clear hcr)
        | (go_at_call 13; refine (rratio_any _ _ _).mono ?_; rintro e w' ⟨r2, d2, rfl, hcr2, hr2, rfl⟩; have HCR2 := Lib.hid hcr2; clear hcr2))
      go_ret
      exact ⟨_, rfl, by rw [HCR2.out, HCR.out, HXX.out]; rfl, bel_drewN HBE.out _⟩
end Go.Proofs.Ytckmmcklhdfjfaa
