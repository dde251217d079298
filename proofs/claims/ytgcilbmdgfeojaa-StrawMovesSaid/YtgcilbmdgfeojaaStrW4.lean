/-
  The walks of the choice of a straw, the program's and the reference's.
-/
import Derived.Test.YtgcilbmdgfeojaaStrW3
import Derived.Test.YtgcilbmdgfeojaaLib2
namespace Go.Proofs.Ytgcilbmdgfeojaa
open Go.RowKit StrMath
set_option linter.unusedVariables false
def iv (x : Int) : Value := .int .i64 x
def I64 (xs : List Int) : Prop := ∀ x ∈ xs, -9223372036854775808 ≤ x ∧ x ≤ 9223372036854775807
theorem I64.getD {xs : List Int} (h : I64 xs) (k : Nat) : -9223372036854775808 ≤ xs.getD k 0 ∧ xs.getD k 0 ≤ 9223372036854775807 := by
  rw [List.getD_eq_getElem?_getD]
  cases e : xs[k]? with
  | none => simp
  | some x => exact h x (List.mem_of_getElem? e)
theorem I64.wf {xs : List Int} (h : I64 xs) (k : Nat) : Lit.wf (.int .i64 (xs.getD k 0)) := by
  have := h.getD k
  generalize xs.getD k 0 = v at this
  simp only [Lit.wf, IntKind.min, IntKind.max, IntKind.signed, IntKind.bits]
  simp
  omega
theorem Ints.i64 {w : World} {A : Option Addr} {len cap : Nat} {zs : List Int} (h : Ints .i64 w A len cap zs) :
    I64 zs ∧ zs.length = len ∧ Reads w w.heap.size 1 A len (zs.map iv) ∧ len ≤ cap ∧ cap ≤ maxLen := by
  obtain ⟨hr, hw, hl, hc, hm⟩ := h
  refine ⟨fun z hz => by simpa [Lit.wf, IntKind.min, IntKind.max, IntKind.signed, IntKind.bits] using hw z hz, by simpa using hl, hr, hc, hm⟩
theorem Reads.intD {w : World} {B n : Nat} {A : Option Addr} {xs : List Int} (h : Reads w B 1 A n (xs.map iv)) {k : Nat} (hk : k < n) :
    ∃ ad, A = some ad ∧ ad.block < B ∧ w.cell? (ad.add k) = some (.int .i64 (xs.getD k 0)) := by
  have hn : xs.length = n := by simpa using h.1
  obtain ⟨ad, u, e, hb, hu, hc⟩ := h.at_ hk
  refine ⟨ad, e, hb, ?_⟩
  rw [hc, List.getD_eq_getElem?_getD, List.getElem?_eq_getElem (by omega)]
  rw [List.getElem?_map, List.getElem?_eq_getElem (by omega)] at hu
  exact hu.symm ▸ rfl
/-- A choice's straws: who draws, and at what cost. -/
def act (ws : List Int) (k : Nat) : Bool := decide (1 ≤ ws.getD k 0)
def cst (ids ws : List Int) (x r : Nat) (k : Nat) : Int := cost (hashN x r (ids.getD k 0 % 18446744073709551616).toNat) (ws.getD k 0)
def pick (ids ws : List Int) (x r : Nat) (k : Nat) : Int × Int := pk (act ws) (cst ids ws x r) k
theorem pick_zero (ids ws : List Int) (x r : Nat) : pick ids ws x r 0 = (-1, 9223372036854775807) := rfl
theorem pick_skip (ids ws : List Int) (x r k : Nat) (h : ws.getD k 0 < 1) : pick ids ws x r (k + 1) = pick ids ws x r k := by
  unfold pick; rw [pk, if_pos (by unfold act; exact decide_eq_false (by omega))]
theorem pick_take (ids ws : List Int) (x r k : Nat) (h : ¬ ws.getD k 0 < 1) (h2 : (pick ids ws x r k).1 < 0 ∨ cst ids ws x r k < (pick ids ws x r k).2) : pick ids ws x r (k + 1) = ((k : Int), cst ids ws x r k) := by
  unfold pick at *; rw [pk, if_neg (by unfold act; simp only [decide_eq_false_iff_not]; omega), if_pos h2]
theorem pick_stay (ids ws : List Int) (x r k : Nat) (h : ¬ ws.getD k 0 < 1) (h1 : ¬ (pick ids ws x r k).1 < 0) (h2 : ¬ cst ids ws x r k < (pick ids ws x r k).2) : pick ids ws x r (k + 1) = pick ids ws x r k := by
  unfold pick at *; rw [pk, if_neg (by unfold act; simp only [decide_eq_false_iff_not]; omega), if_neg (by omega)]
theorem quiet_add_left {P : Program} {f : FuncId} {args : Array Value} {w : World} {a n : Nat} {v : Value}
    (h : Calls P f args (w.drewN (a + n)) fun e w' => e = .returned v ∧ w.drewN (a + n) = w') :
    Calls P f args (w.drewN (a + n)) fun e w'' => e = .returned v ∧ ∃ m, w'' = w.drewN (a + m) :=
  h.mono fun _ _ ⟨he, hm⟩ => ⟨he, n, hm.symm⟩
theorem wrap_id (v : Int) : IntKind.u64.wrap v = (((v % 18446744073709551616).toNat : Nat) : Int) := by rw [IntKind.wrap_u64]; omega
set_option maxRecDepth 100000 in
set_option maxHeartbeats 1000000 in
theorem choose_any (A B : Option Addr) (c1 c2 n m : Nat) (x r : Nat) (ids ws : List Int) (w : World) (hi : I64 ids) (hw : I64 ws) (h1 : Reads w w.heap.size 1 A n (ids.map iv)) (h2 : Reads w w.heap.size 1 B m (ws.map iv))
    (hx : x < 18446744073709551616) (hr : r < 18446744073709551616) (hn : n ≤ maxLen) (hm : n = m) :
    Calls Try.prog 13 #[.slice A n c1, .slice B m c2, .int .u64 x, .int .u64 r] w fun e w' => e = .returned (.tuple #[.int .i64 (pick ids ws x r n).1, .int .i64 0]) ∧ ∃ d, w' = w.drewN d := by
  subst hm
  unfold maxLen at hn
  have R1 := Lib.hid h1
  have R2 := Lib.hid h2
  clear h1 h2
  go_enter Try.func13, Try.ntmps13
  go_wp2
  go_loopw [10, 11, 12, 13, 14, 22] (fun vb vl _ _ _ vi wr => ∃ k d : Nat, k ≤ n ∧ vi = .int .i64 k ∧ vb = .int .i64 (pick ids ws x r k).1 ∧ vl = .int .i64 (pick ids ws x r k).2 ∧ wr = w.drewN d) (fun _ _ _ _ _ vi _ => n - (intOf vi).toNat)
  case atStart => exact ⟨0, 0, by omega, rfl, rfl, rfl, rfl⟩
  case round =>
    obtain ⟨k, d, hk, rfl, rfl, rfl, rfl⟩ := hrel
    by_cases hlt : k < n
    · obtain ⟨a1, rfl, hb1, hc1⟩ := R1.out.intD hlt
      obtain ⟨a2, rfl, hb2, hc2⟩ := R2.out.intD hlt
      have p0 := pick_skip ids ws x r k
      have p1 := pick_take ids ws x r k
      have p2 := pick_stay ids ws x r k
      have ww := hw.wf k
      have e1 : cst ids ws x r k = cost (hashN x r (ids.getD k 0 % 18446744073709551616).toNat) (ws.getD k 0) := rfl
      obtain ⟨id, ei⟩ : ∃ id, ids.getD k 0 = id := ⟨_, rfl⟩
      obtain ⟨wt, ewt⟩ : ∃ wt, ws.getD k 0 = wt := ⟨_, rfl⟩
      rw [ei] at hc1 e1
      rw [ewt] at hc2 e1 p0 p1 p2 ww
      obtain ⟨pp, epp⟩ : ∃ pp, pick ids ws x r k = pp := ⟨_, rfl⟩
      rw [epp] at p0 p1 p2 ⊢
      obtain ⟨b, l⟩ := pp
      simp only at p1 p2
      have q1 := wrap_id id
      have hu : (id % 18446744073709551616).toNat < 18446744073709551616 := by omega
      obtain ⟨u, eu⟩ : ∃ u, (id % 18446744073709551616).toNat = u := ⟨_, rfl⟩
      rw [eu] at q1 hu e1
      have hH := hashN_lt x r u
      have hca := fun W => hash_any x r u W hr hu
      obtain ⟨H, eH⟩ : ∃ H, hashN x r u = H := ⟨_, rfl⟩
      rw [eH] at e1 hH hca
      have hco := fun W => cost_any H wt W hH ww
      have hcr := cost_rng H wt
      rw [e1] at p1 p2
      obtain ⟨c, ec⟩ : ∃ c, cost H wt = c := ⟨_, rfl⟩
      rw [ec] at hco hcr p1 p2
      have HC := Lib.hid hco
      have HA := Lib.hid hca
      by_cases hz : wt < 1
      · have E1 := Lib.hid (p0 hz)
        clear p0 p1 p2 e1 ec eH eu epp ewt ei hca hco q1
        have d1 : decide (wt < 1) = true := decide_eq_true hz
        go_wp2
        exact ⟨⟨k + 1, d, by omega, by go_num, by rw [E1.out], by rw [E1.out], rfl⟩, by simp [intOf]; omega⟩
      · have d1 : decide (wt < 1) = false := decide_eq_false hz
        by_cases hbb : b < 0
        · have d2 : decide (b < 0) = true := decide_eq_true hbb
          have E1 := Lib.hid (p1 hz (.inl hbb))
          clear p0 p1 p2 e1 ec eH eu epp ewt ei hca hco
          go_wp2
          go_quiet (first
            | (go_at_call 17; exact quiet_add_left (HA.out _))
            | (go_at_call 10; exact quiet_add_left (HC.out _)))
          go_wp2
          exact ⟨⟨k + 1, _, by omega, by go_num, by rw [E1.out], by rw [E1.out], rfl⟩, by simp [intOf]; omega⟩
        · have d2 : decide (b < 0) = false := decide_eq_false hbb
          by_cases hcl : c < l
          · have d3 : decide (c < l) = true := decide_eq_true hcl
            have E1 := Lib.hid (p1 hz (.inr hcl))
            clear p0 p1 p2 e1 ec eH eu epp ewt ei hca hco
            go_wp2
            go_quiet (first
              | (go_at_call 17; exact quiet_add_left (HA.out _))
              | (go_at_call 10; exact quiet_add_left (HC.out _)))
            go_wp2
            exact ⟨⟨k + 1, _, by omega, by go_num, by rw [E1.out], by rw [E1.out], rfl⟩, by simp [intOf]; omega⟩
          · have d3 : decide (c < l) = false := decide_eq_false hcl
            have E1 := Lib.hid (p2 hz hbb hcl)
            clear p0 p1 p2 e1 ec eH eu epp ewt ei hca hco
            go_wp2
            go_quiet (first
              | (go_at_call 17; exact quiet_add_left (HA.out _))
              | (go_at_call 10; exact quiet_add_left (HC.out _)))
            go_wp2
            exact ⟨⟨k + 1, _, by omega, by go_num, by rw [E1.out], by rw [E1.out], rfl⟩, by simp [intOf]; omega⟩
    · obtain rfl : k = n := by omega
      go_wp2
      go_ret2
      exact ⟨rfl, _, rfl⟩
end Go.Proofs.Ytgcilbmdgfeojaa
