/-
  Order of any numbers: each place once, and nothing falls along it.
-/
import Derived.Test.YtckmmcklhdfjfaaGaS6
namespace Go.Proofs.Ytckmmcklhdfjfaa
open Go.RowKit
set_option linter.unusedVariables false
set_option maxRecDepth 100000 in
theorem sort_any (A : Option Addr) (n cap : Nat) (l : List Nat) (B g rc : Nat) (f : Nat → Nat) (w : World) (hF : Hid (Fl l)) (hC : Hid (ClIn w A n cap l B g)) (hS : Hid (St w g n f w)) (hn : n ≤ 17592186043904) :
    Calls Try.prog 32 #[.slice (some ⟨g, 0, none⟩) n rc, .func (.func 33) #[] #[.pointer (some ⟨B, 0, none⟩)]] w
      fun e w' => e = .returned (.tuple #[]) ∧ ∃ f', Rearr f f' 0 n ∧ Sd l f' 0 n ∧ St w g n f' w' := by
  have HI := Lib.hid (stable_any A n cap l B g rc f w hF hC hS hn)
  go_enter Try.func32, Try.ntmps32
  go_wp2_with fail
  refine HI.out.mono ?_
  rintro e w' ⟨rfl, f', h1, h2, h3⟩
  have H1 := Lib.hid h1
  have H2 := Lib.hid h2
  have H3 := Lib.hid h3
  clear h1 h2 h3
  go_wp2
  go_end0
  exact ⟨rfl, f', H1.out, H2.out, H3.out⟩
set_option maxRecDepth 100000 in
theorem insertion_nil (cv : Value) (w : World) : Calls Try.prog 45 #[.slice none 0 0, .int .i64 0, .int .i64 0, cv] w fun e w' => e = .returned (.tuple #[]) ∧ w' = w := by
  go_enter Try.func45, Try.ntmps45
  go_wp2
  go_loopw [8] (fun vi wr => vi = .int .i64 1 ∧ wr = w) (fun _ _ => 0)
  case atStart => exact ⟨rfl, rfl⟩
  case round =>
    obtain ⟨rfl, rfl⟩ := hrel
    go_wp2
    go_end0
    exact ⟨rfl, rfl⟩
set_option maxRecDepth 100000 in
theorem stable_nil (cv : Value) (w : World) : Calls Try.prog 39 #[.slice none 0 0, .int .i64 0, cv] w fun e w' => e = .returned (.tuple #[]) ∧ w' = w := by
  go_enter Try.func39, Try.ntmps39
  go_wp2_with fail
  go_loopw [7, 8] (fun va vb wr => va = .int .i64 0 ∧ vb = .int .i64 20 ∧ wr = w) (fun _ _ _ => 0)
  case atStart => exact ⟨rfl, rfl, rfl⟩
  case round =>
    obtain ⟨rfl, rfl, rfl⟩ := hrel
    go_wp2_with (go_at_call 45; refine (insertion_nil _ _).mono ?_; rintro e w' ⟨rfl, hw⟩; rw [hw]; clear hw)
    go_loopw [6] (fun va wx => va = .int .i64 20 ∧ wx = wr) (fun _ _ => 0)
    case atStart => exact ⟨rfl, rfl⟩
    case round =>
      obtain ⟨rfl, rfl⟩ := hrel
      go_wp2
      go_end0
      exact ⟨rfl, rfl⟩
set_option maxRecDepth 100000 in
theorem sort_nil (cv : Value) (w : World) : Calls Try.prog 32 #[.slice none 0 0, cv] w fun e w' => e = .returned (.tuple #[]) ∧ w' = w := by
  go_enter Try.func32, Try.ntmps32
  go_wp2_with (go_at_call 39; refine (stable_nil _ _).mono ?_; rintro e w' ⟨rfl, hw⟩; rw [hw]; clear hw)
  go_end0
  exact ⟨rfl, rfl⟩
/-- What Order answers. -/
structure OrdR (l : List Nat) (n : Nat) (w : World) (Ao : Option Addr) (f : Nat → Nat) (w' : World) : Prop where
  rows : 0 < n → ∃ g, Ao = some ⟨g, 0, none⟩ ∧ RowF w' g n f
  bel : Below w.heap.size w w'
  lies : Lies n f
  inj : ∀ i j, i < n → j < n → f i = f j → i = j
  sd : Sd l f 0 n
set_option maxRecDepth 100000 in
set_option maxHeartbeats 2000000 in
theorem order_any (A : Option Addr) (n cap : Nat) (l : List Nat) (w : World) (HR : Hid (Reads w w.heap.size 1 A n (l.map fv))) (hF : Hid (Fl l)) (hn : n ≤ 17592186043904) :
    Calls Try.prog 15 #[.slice A n cap] w
      fun e w' => ∃ Ao rc f, e = .returned (.slice Ao n rc) ∧ OrdR l n w Ao f w' := by
  obtain ⟨w1, ew1⟩ : ∃ w1, w.alloc (.cells #[.slice A n cap] 22) = w1 := ⟨_, rfl⟩
  have hb1 : Below w.heap.size w w1 := by rw [← ew1]; exact (Below.refl _ _).alloc (Nat.le_refl _) _
  have hx : Blk w1 w.heap.size 22 #[.slice A n cap] := by rw [← ew1]; exact Blk.new w _ _
  have hsz : w1.heap.size = w.heap.size + 1 := by rw [← ew1]; simp
  have HB1 := Lib.hid hb1
  have HX := Lib.hid hx
  have HZ := Lib.hid hsz
  have hc0 := hx.cell 0
  clear hb1 hx hsz
  have hst0 := Lib.hid (Ap.start w1 3)
  go_enter Try.func15, Try.ntmps15
  go_wp2
  clear ew1
  have k7 := Try.underlying29
  go_loopw [3, 4, 7] (fun vo vx vi wr => ∃ k : Nat, k ≤ n ∧ vi = .int .i64 k ∧ Hid (k = 0 → vo = .slice none 0 0) ∧ Hid (Ap w1 3 vo (pvs k) wr)) (fun _ _ vi _ => n - (intOf vi).toNat)
  case atStart => exact ⟨0, by omega, rfl, Lib.hid fun _ => rfl, hst0⟩
  case round =>
    obtain ⟨k, hk, rfl, HV, hst⟩ := hrel
    clear hst0
    by_cases hlt : k < n
    · have d1 : decide (k < n) = true := decide_eq_true hlt
      have HS := Lib.hid (pvs_succ k)
      have HL := Lib.hid (pvs_len k)
      go_wp2_with (at_builtin
                   refine wpl_ap rfl _ _ 29 3 _ Try.underlying29 Try.infoI64 rfl rfl hst.out (by rw [HL.out]; omega) (.int .i64 (k : Nat)) rfl rfl rfl ?_
                   intro v5 w5 hst5)
      exact ⟨⟨k + 1, by omega, by go_num, Lib.hid (fun h => absurd h (by omega)), by rw [HS.out]; exact hst5⟩, by simp [intOf]; omega⟩
    · obtain rfl : n = k := by omega
      have ho := hst.out.own
      rw [pvs_len] at ho
      have hbr : Below w.heap.size w wr := HB1.out.trans (hst.out.bel.mono (by have := HZ.out; omega))
      have HBR := Lib.hid hbr
      by_cases h0 : 0 < n
      · obtain ⟨A1, c1, rfl, hc1, hc2⟩ := own_slice ho
        obtain ⟨g, rfl, hg, hrow⟩ := RowF.of_own ho h0 id (fun i hi => pvs_at n i hi)
        clear ho
        have hgs : g < wr.heap.size := hrow.lt
        have hwz := HZ.out
        have HCI := Lib.hid (show ClIn wr A n cap l w.heap.size g from ⟨(HR.out.later hbr), (hst.out.bel.cell (p := ⟨w.heap.size, 0, none⟩) (by show w.heap.size < _; omega)).trans hc0, by omega, by omega, fun ad ea => by
          obtain ⟨a1, ea1, hb1, -⟩ := HR.out.2 h0
          rw [ea] at ea1
          obtain rfl := Option.some.inj ea1
          omega⟩)
        have HS0 := Lib.hid (show St wr g n id wr from ⟨hrow, Keep.refl _ _, fun i hi => hi⟩)
        have HSO := Lib.hid (sort_any A n cap l w.heap.size g c1 id wr hF HCI HS0 hn)
        have hbx := HCI.out.bx
        have HG := Lib.hid (show w.heap.size ≤ g from by omega)
        clear hbr hgs hwz hrow hst HZ HX hc0 HB1 hg
        go_wp2_with fail
        refine HSO.out.mono ?_
        rintro e w6 ⟨rfl, f', hr', hs', hS6⟩
        have HS6 := Lib.hid hS6
        have HRE := Lib.hid hr'
        have HSD := Lib.hid hs'
        clear hS6 hr' hs'
        go_wp2
        go_ret
        exact ⟨_, c1, f', rfl, fun _ => ⟨g, rfl, HS6.out.row⟩, HBR.out.trans (HS6.out.keep.to_below HBR.out.size HG.out), HS6.out.lies, fun i j hi hj e => HRE.out.inj (fun i j _ _ _ _ e => e) i j (Nat.zero_le _) hi (Nat.zero_le _) hj e, HSD.out⟩
      · obtain rfl : n = 0 := by omega
        have hv := HV.out rfl
        clear ho hst HV
        subst hv
        go_wp2_with (go_at_call 32; refine (sort_nil _ _).mono ?_; rintro e w' ⟨rfl, hw⟩; rw [hw]; clear hw)
        go_ret
        exact ⟨none, 0, id, rfl, fun h => absurd h (by omega), HBR.out, fun i hi => absurd hi (by omega), fun i j hi => absurd hi (by omega), fun i j _ _ hj => absurd hj (by omega)⟩
/-- A row of yes and no. -/
def RowB (w : World) (g n : Nat) (p : Nat → Bool) : Prop := ∃ cs : Array Value, Blk w g 4 cs ∧ n ≤ cs.size ∧ ∀ i, i < n → cs[i]? = some (.bool (p i))
section
variable {w w' : World} {g n : Nat} {p : Nat → Bool}
theorem RowB.cell (h : RowB w g n p) {i : Nat} (hi : i < n) : w.cell? ⟨g, i, none⟩ = some (.bool (p i)) := by
  obtain ⟨cs, hb, hs, hc⟩ := h
  rw [hb.cell i, hc i hi]
theorem RowB.frozen (h : RowB w g n p) (i : Nat) : w.frozen? ⟨g, i, none⟩ = false := by
  obtain ⟨cs, hb, hs, hc⟩ := h
  exact hb.frozen i
theorem RowB.lt (h : RowB w g n p) : g < w.heap.size := by
  obtain ⟨cs, hb, hs, hc⟩ := h
  exact hb.lt
theorem RowB.set_ (h : RowB w g n p) (i : Nat) (x : Bool) : RowB (w.setCell ⟨g, i, none⟩ (.bool x)) g n (fun j => if j = i then x else p j) := by
  obtain ⟨cs, hb, hs, hc⟩ := h
  refine ⟨_, hb.set_ i _, by simpa using hs, fun k hk => ?_⟩
  dsimp only
  by_cases e : k = i
  · subst e
    rw [if_pos rfl, Array.getElem?_setIfInBounds_self_of_lt (by omega)]
  · rw [if_neg e, Array.getElem?_setIfInBounds_ne (fun h => e h.symm)]
    exact hc k hk
theorem RowB.below (h : RowB w g n p) (hb : Below w.heap.size w w') : RowB w' g n p := by
  obtain ⟨cs, hB, hs, hc⟩ := h
  exact ⟨cs, hB.below hb hB.lt, hs, hc⟩
theorem RowB.made (w : World) (n : Nat) : RowB (w.alloc (.cells (madeCells #[.bool false] n) 4)) w.heap.size n (fun _ => false) := by
  refine ⟨_, Blk.new w _ _, ?_, fun i hi => ?_⟩
  · simp [madeCells]
  · simp [madeCells, hi, Nat.mod_one]
end
end Go.Proofs.Ytckmmcklhdfjfaa
