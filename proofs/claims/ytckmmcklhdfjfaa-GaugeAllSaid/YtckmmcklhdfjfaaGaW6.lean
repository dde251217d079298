/-
  The stable sort of fewer than twenty places, and Order of so few numbers.
-/
import Derived.Test.YtckmmcklhdfjfaaGaW5
namespace Go.Proofs.Ytckmmcklhdfjfaa
open Go.RowKit
set_option linter.unusedVariables false
set_option maxRecDepth 100000 in
set_option maxHeartbeats 4000000 in
theorem stable_small (A : Option Addr) (n cap : Nat) (l : List Nat) (B g rc : Nat) (f : Nat → Nat) (w : World) (hF : Hid (Fl l)) (hC : Hid (ClIn w A n cap l B g)) (hS : Hid (St w g n f w)) (hn : n < 20) :
    Calls Try.prog 39 #[.slice (some ⟨g, 0, none⟩) n rc, .int .i64 (n : Int), .func (.func 33) #[] #[.pointer (some ⟨B, 0, none⟩)]] w
      fun e w' => e = .returned (.tuple #[]) ∧ St w g n (insTo l 0 (n - 1) f) w' := by
  have d1 : decide ((20 : Int) ≤ (n : Int)) = false := decide_eq_false (by omega)
  have d2 : decide (20 ≤ n) = false := decide_eq_false (by omega)
  have d3 : decide ((20 : Int) < (n : Int)) = false := decide_eq_false (by omega)
  have d4 : decide (20 < n) = false := decide_eq_false (by omega)
  have HI := Lib.hid (insertion_any A n cap l B g rc 0 n f w hF hC hS (Nat.zero_le _) (Nat.le_refl _) (by omega))
  go_enter Try.func39, Try.ntmps39
  go_wp2_with fail
  go_loopw [7, 8] (fun va vb wr => va = .int .i64 0 ∧ vb = .int .i64 20 ∧ wr = w) (fun _ _ _ => 0)
  case atStart => exact ⟨rfl, rfl, rfl⟩
  case round =>
    obtain ⟨rfl, rfl, rfl⟩ := hrel
    go_wp2_with (go_at_call 45; refine HI.out.mono ?_; rintro e w' ⟨rfl, hS'⟩; have HS' := Lib.hid hS'; clear hS')
    obtain ⟨wz, hwz⟩ : ∃ wz, wz = w' := ⟨_, rfl⟩
    go_loopw [6] (fun va wr => va = .int .i64 20 ∧ wr = w') (fun _ _ => 0)
    case atStart => exact ⟨rfl, rfl⟩
    case round =>
      obtain ⟨rfl, rfl⟩ := hrel
      go_wp2
      go_end0
      exact ⟨rfl, HS'.out⟩
set_option maxRecDepth 100000 in
theorem sort_small (A : Option Addr) (n cap : Nat) (l : List Nat) (B g rc : Nat) (f : Nat → Nat) (w : World) (hF : Hid (Fl l)) (hC : Hid (ClIn w A n cap l B g)) (hS : Hid (St w g n f w)) (hn : n < 20) :
    Calls Try.prog 32 #[.slice (some ⟨g, 0, none⟩) n rc, .func (.func 33) #[] #[.pointer (some ⟨B, 0, none⟩)]] w
      fun e w' => e = .returned (.tuple #[]) ∧ St w g n (insTo l 0 (n - 1) f) w' := by
  have HI := Lib.hid (stable_small A n cap l B g rc f w hF hC hS hn)
  go_enter Try.func32, Try.ntmps32
  go_wp2_with fail
  refine HI.out.mono ?_
  rintro e w' ⟨rfl, hS'⟩
  have HS' := Lib.hid hS'
  clear hS'
  go_wp2
  go_end0
  exact ⟨rfl, HS'.out⟩
/-- A row of the call's own, as places. -/
theorem RowF.of_own {w : World} {base n cap : Nat} {xs : List Value} {A : Option Addr} (h : w.ownsRow base 3 1 (.slice A n cap) n xs) (h0 : 0 < n) (f : Nat → Nat) (hf : ∀ i, i < n → xs[i]? = some (.int .i64 (f i : Nat))) :
    ∃ g, A = some ⟨g, 0, none⟩ ∧ base ≤ g ∧ RowF w g n f := by
  rcases h.2 with ⟨-, e⟩ | ⟨g, cap', cur, e, hb, hg, h1, h2, h3, h4⟩
  · omega
  · injection e with e1 e2 e3
    refine ⟨g, e1, hb, cur, hg, by omega, fun i hi => ?_⟩
    have := hf i hi
    rw [← h4, List.getElem?_take_of_lt (by omega)] at this
    simpa using this
/-! ### Rows that grow by one -/
theorem Try.infoI64 : (Try.prog.info? 3).map (fun i => (i.zero, i.size, i.bytes)) = some (some (.int .i64 0), 1, 8) := by kernel_rfl
theorem Try.infoF64 : (Try.prog.info? 23).map (fun i => (i.zero, i.size, i.bytes)) = some (some (.float .f64 0), 1, 8) := by kernel_rfl
structure Ap (w : World) (t : TypeId) (v : Value) (xs : List Value) (wr : World) : Prop where
  own : wr.ownsRow w.heap.size t 1 v xs.length xs
  bel : Below w.heap.size w wr
theorem Ap.start (w : World) (t : TypeId) : Ap w t (.slice none 0 0) [] w := ⟨⟨rfl, .inl ⟨rfl, rfl⟩⟩, Below.refl _ _⟩
theorem Ap.later {w wr w' : World} {t : TypeId} {v : Value} {xs : List Value} (h : Ap w t v xs wr) (hb : Below wr.heap.size wr w') : Ap w t v xs w' := ⟨h.own.kept (row := none) ⟨hb.os, hb.tape, hb.output, hb.size, fun k hk _ => hb.block k hk⟩ (by cases hv : v.ownBlock <;> simp), h.bel.trans (hb.mono h.bel.size)⟩
theorem Ap.drewN {w wr : World} {t : TypeId} {v : Value} {xs : List Value} (h : Ap w t v xs wr) (d : Nat) : Ap w t v xs (wr.drewN d) := ⟨h.own, bel_drewN h.bel d⟩
theorem wpl_ap {ops : Array Oper} {rest : List Oper} {o : Oper} {a : Act} {Q : Exit → Act → World → Prop} {w wr : World} {v : Value} {xs : List Value} (hg : o.guard = none) (s x : Operand) (ts te : TypeId) (z : Value)
    (hts : Try.prog.underlying ts = some (.slice te)) (hinfo : (Try.prog.info? te).map (fun i => (i.zero, i.size, i.bytes)) = some (some z, 1, 8)) (hz : z.cells.size = 1)
    (ho : o.op = .call { callee := .builtin .append, args := #[s, x], argTypes := #[ts, ts] }) (hst : Ap w te v xs wr) (hl : xs.length * 8 ≤ 140737488351232) (u : Value) (hu : u.oneCell' = true) (hs : a.eval s = v) (hx : a.eval x = .slice (some ⟨wr.heap.size, 0, none⟩) 1 1)
    (h : ∀ v' w', Hid (Ap w te v' (xs ++ [u]) w') → wpList Try.prog ops Q rest (a.put o.dst v') w') : wpList Try.prog ops Q (o :: rest) a (wr.alloc (.cells #[u] te)) := by
  have hb1 : Below w.heap.size w (wr.alloc (.cells #[u] te)) := hst.bel.alloc hst.bel.size _
  have hst' : Ap w te v xs (wr.alloc (.cells #[u] te)) := ⟨hst.own.alloc _, hb1⟩
  refine wpl_append hg s x ts ho w w.heap.size te z 1 8 hts hinfo hz (by decide) v xs.length xs hs hst'.own (wr.heap.size + 1) (some ⟨wr.heap.size, 0, none⟩) 1 1 [u] hx (Reads.lit1 wr te u) (by intro y hy; rw [List.mem_singleton.1 hy]; exact hu) (by omega) (by decide) hb1 hb1.size fun v' w' hh => h v' w' (Lib.hid ⟨?_, hh.out.2.1⟩)
  have := hh.out.1
  simpa using this
def pvs (n : Nat) : List Value := (List.range n).map fun i => .int .i64 (i : Nat)
theorem pvs_len (n : Nat) : (pvs n).length = n := by simp [pvs]
theorem pvs_succ (n : Nat) : pvs (n + 1) = pvs n ++ [.int .i64 (n : Nat)] := by unfold pvs; rw [List.range_succ, List.map_append]; rfl
theorem pvs_at (n i : Nat) (h : i < n) : (pvs n)[i]? = some (.int .i64 ((id i : Nat) : Int)) := by
  unfold pvs
  rw [List.getElem?_map, List.getElem?_range h]; rfl
set_option maxRecDepth 100000 in
set_option maxHeartbeats 2000000 in
theorem order_small (A : Option Addr) (n cap : Nat) (l : List Nat) (w : World) (HR : Hid (Reads w w.heap.size 1 A n (l.map fv))) (hF : Hid (Fl l)) (h0 : 0 < n) (hn : n < 20) :
    Calls Try.prog 15 #[.slice A n cap] w
      fun e w' => ∃ g rc, e = .returned (.slice (some ⟨g, 0, none⟩) n rc) ∧ RowF w' g n (insTo l 0 (n - 1) id) ∧ Below w.heap.size w w' ∧ w.heap.size ≤ g := by
  have hbw := Lib.hid (Below.refl w.heap.size w)
  obtain ⟨w1, ew1⟩ : ∃ w1, w.alloc (.cells #[.slice A n cap] 22) = w1 := ⟨_, rfl⟩
  have hb1 : Below w.heap.size w w1 := by rw [← ew1]; exact (Below.refl _ _).alloc (Nat.le_refl _) _
  have hx : Blk w1 w.heap.size 22 #[.slice A n cap] := by rw [← ew1]; exact Blk.new w _ _
  have hsz : w1.heap.size = w.heap.size + 1 := by rw [← ew1]; simp
  have HB1 := Lib.hid hb1
  have HX := Lib.hid hx
  have HZ := Lib.hid hsz
  have hc0 := hx.cell 0
  clear hb1 hx hsz
  have hst0 := Lib.hid (Ap.start w1 3)
  go_enter Try.func15, Try.ntmps15
  go_wp2
  clear ew1
  have k7 := Try.underlying29
  go_loopw [3, 4, 7] (fun vo vx vi wr => ∃ k : Nat, k ≤ n ∧ vi = .int .i64 k ∧ Hid (Ap w1 3 vo (pvs k) wr)) (fun _ _ vi _ => n - (intOf vi).toNat)
  case atStart => exact ⟨0, by omega, rfl, hst0⟩
  case round =>
    obtain ⟨k, hk, rfl, hst⟩ := hrel
    clear hst0
    by_cases hlt : k < n
    · have d1 : decide (k < n) = true := decide_eq_true hlt
      have HS := Lib.hid (pvs_succ k)
      have HL := Lib.hid (pvs_len k)
      go_wp2_with (at_builtin
                   refine wpl_ap rfl _ _ 29 3 _ Try.underlying29 Try.infoI64 rfl rfl hst.out (by rw [HL.out]; omega) (.int .i64 (k : Nat)) rfl rfl rfl ?_
                   intro v5 w5 hst5)
      exact ⟨⟨k + 1, by omega, by go_num, by rw [HS.out]; exact hst5⟩, by simp [intOf]; omega⟩
    · obtain rfl : n = k := by omega
      have ho := hst.out.own
      rw [pvs_len] at ho
      obtain ⟨A1, c1, rfl, hc1, hc2⟩ := own_slice ho
      obtain ⟨g, rfl, hg, hrow⟩ := RowF.of_own ho h0 id (fun i hi => pvs_at n i hi)
      clear ho
      have hbr : Below w.heap.size w wr := HB1.out.trans (hst.out.bel.mono (by have := HZ.out; omega))
      have hgs : g < wr.heap.size := hrow.lt
      have hwz := HZ.out
      have HCI := Lib.hid (show ClIn wr A n cap l w.heap.size g from ⟨(HR.out.later hbr), (hst.out.bel.cell (p := ⟨w.heap.size, 0, none⟩) (by show w.heap.size < _; omega)).trans hc0, by omega, by omega, fun ad ea => by
        obtain ⟨a1, ea1, hb1, -⟩ := HR.out.2 h0
        rw [ea] at ea1
        obtain rfl := Option.some.inj ea1
        omega⟩)
      have HS0 := Lib.hid (show St wr g n id wr from ⟨hrow, Keep.refl _ _, fun i hi => hi⟩)
      have HSO := Lib.hid (sort_small A n cap l w.heap.size g c1 id wr hF HCI HS0 hn)
      have hbx := HCI.out.bx
      have HBR := Lib.hid hbr
      have HG := Lib.hid (show w.heap.size ≤ g from by omega)
      clear hbr hgs hwz hrow hst HZ HX hc0 HB1 hg
      go_wp2_with fail
      refine HSO.out.mono ?_
      rintro e w6 ⟨rfl, hS6⟩
      have HS6 := Lib.hid hS6
      clear hS6
      go_wp2
      go_ret
      exact ⟨g, c1, rfl, HS6.out.row, HBR.out.trans (HS6.out.keep.to_below HBR.out.size HG.out), HG.out⟩
end Go.Proofs.Ytckmmcklhdfjfaa
