/-
  The walks of Weights, Moves, Ints, Group, the program's and the reference's.
-/
import Derived.Test.YtmdffmajnbokeaaPlW1
namespace Go.Proofs.Ytmdffmajnbokeaa
open Go.RowKit StrMath PlMath
set_option linter.unusedVariables false
theorem wts_take (ms : List Mem) (k : Nat) (h : k < ms.length) : wts (ms.take (k + 1)) = wts (ms.take k) + if 0 < (ms.getD k (0, 0)).2 then 1 else 0 := by
  unfold wts
  rw [List.take_succ_eq_append_getElem h, List.filter_append, List.length_append, List.getD_eq_getElem?_getD, List.getElem?_eq_getElem h]
  simp only [Option.getD_some]
  congr 1
  rw [List.filter_cons]
  split <;> simp_all
theorem wts_le (ms : List Mem) : wts ms ≤ ms.length := List.length_filter_le _ _
set_option maxRecDepth 100000 in
theorem pos_any (id wt : Int) (w : World) : Calls Try.prog 35 #[.agg #[.int .i64 id, .int .i64 wt]] w fun e w' => e = .returned (.bool (decide (0 < wt))) ∧ Below w.heap.size w w' := by
  go_enter Try.func35, Try.ntmps35
  go_wp2
  go_ret
  exact ⟨rfl, (Below.refl _ _).alloc (Nat.le_refl _) _⟩
set_option maxRecDepth 100000 in
set_option maxHeartbeats 1000000 in
theorem count_pos (e : Nat) (A : Option Addr) (n cap : Nat) (ms : List Mem) (w : World) (hr : Reads w w.heap.size 2 A n (mcells ms)) (hc : n ≤ cap) (hm : cap ≤ maxLen) :
    Calls Try.prog 31 #[mapV e A n cap, .func (.func 35) #[] #[]] w fun e w' => e = .returned (.int .i64 (wts ms : Nat)) ∧ Below w.heap.size w w' := by
  unfold maxLen at hm
  have hl : ms.length = n := by have := hr.1; rw [mcells_len] at this; omega
  have HR := Lib.hid hr
  have HL := Lib.hid hl
  clear hr hl
  unfold mapV
  go_enter Try.func31, Try.ntmps31
  go_wp2
  go_loopw [5, 7, 11] (fun vc _ vi wr => ∃ k : Nat, k ≤ n ∧ vi = .int .i64 k ∧ vc = .int .i64 (wts (ms.take k) : Nat) ∧ Below w.heap.size w wr ∧ w.heap.size < wr.heap.size) (fun _ _ vi _ => n - (intOf vi).toNat)
  case atStart => exact ⟨0, by omega, rfl, rfl, (Below.refl _ _).alloc (Nat.le_refl _) _, by simp⟩
  case round =>
    obtain ⟨k, hk, rfl, rfl, hb, hsz⟩ := hrel
    have hwl := wts_le (ms.take k)
    rw [List.length_take] at hwl
    have hwk : wts (ms.take k) ≤ k := by omega
    clear hwl
    by_cases hlt : k < n
    · obtain ⟨ad, rfl, hbl, hc1, hc2⟩ := (HR.out.below hb).mem hlt
      have hd := wts_take ms k (by have := HL.out; omega)
      obtain ⟨x, ex⟩ : ∃ x, ms.getD k (0, 0) = x := ⟨_, rfl⟩
      rw [ex] at hc1 hc2 hd
      obtain ⟨id, wt⟩ := x
      simp only at hc1 hc2 hd
      clear ex
      have hb2 := hb.alloc (Nat.le_of_lt hsz) (.cells #[.int .i64 id, .int .i64 wt] 41)
      by_cases g : 0 < wt
      · rw [if_pos g] at hd
        have e1 : decide (0 < wt) = true := decide_eq_true g
        generalize wts (ms.take k) = c at *
        have Q := Lib.hid hd
        clear hd
        go_wp2_with fail
        refine (pos_any id wt _).mono ?_
        rintro e w2 ⟨rfl, hb3⟩
        have hb4 : Below w.heap.size w w2 := hb2.trans (hb3.mono hb2.size)
        have hs3 := hb3.size
        rw [e1]
        simp at hs3
        clear hb3
        go_wp2
        exact ⟨⟨k + 1, by omega, by go_num, by rw [Q.out]; go_num, hb4, by omega⟩, by simp [intOf]; omega⟩
      · rw [if_neg g] at hd
        have e1 : decide (0 < wt) = false := decide_eq_false g
        generalize wts (ms.take k) = c at *
        have Q := Lib.hid hd
        clear hd
        go_wp2_with fail
        refine (pos_any id wt _).mono ?_
        rintro e w2 ⟨rfl, hb3⟩
        have hb4 : Below w.heap.size w w2 := hb2.trans (hb3.mono hb2.size)
        have hs3 := hb3.size
        rw [e1]
        simp at hs3
        clear hb3
        go_wp2
        exact ⟨⟨k + 1, by omega, by go_num, by rw [Q.out]; rfl, hb4, by omega⟩, by simp [intOf]; omega⟩
    · obtain rfl : n = k := by omega
      have e0 := congrArg wts (List.take_of_length_le (l := ms) (i := n) (by have := HL.out; omega))
      have E0 := Lib.hid e0
      clear e0
      go_wp2
      go_ret
      exact ⟨ret_int (by rw [E0.out]), hb⟩
theorem weights_any (e : Nat) (A : Option Addr) (n cap : Nat) (ms : List Mem) (w : World) (hr : Reads w w.heap.size 2 A n (mcells ms)) (hc : n ≤ cap) (hm : cap ≤ maxLen) :
    Calls Try.prog 19 #[mapV e A n cap] w fun e w' => e = .returned (.int .i64 (wts ms : Nat)) ∧ Below w.heap.size w w' := by
  have HR := Lib.hid hr
  clear hr
  unfold mapV
  go_enter Try.func19, Try.ntmps19
  go_wp2_with fail
  refine (count_pos e A n cap ms _ ((HR.out.alloc (Nat.le_refl _) _).more (by simp)) hc hm).mono ?_
  rintro e w2 ⟨rfl, hb⟩
  go_wp2
  go_ret
  exact ⟨rfl, ((Below.refl _ _).alloc (Nat.le_refl _) _).trans (hb.mono (by simp))⟩
set_option maxRecDepth 100000 in
set_option maxHeartbeats 1000000 in
theorem rweights_any (e : Nat) (A : Option Addr) (n cap : Nat) (ms : List Mem) (w : World) (hr : Reads w w.heap.size 2 A n (mcells ms)) (hc : n ≤ cap) (hm : cap ≤ maxLen) :
    Calls Try.prog 24 #[mapV e A n cap] w fun e w' => e = .returned (.int .i64 (wts ms : Nat)) ∧ Below w.heap.size w w' := by
  unfold maxLen at hm
  have hl : ms.length = n := by have := hr.1; rw [mcells_len] at this; omega
  have HR := Lib.hid ((hr.alloc (Nat.le_refl _) (.cells #[.int .u64 (e : Int), .slice A n cap] 25)))
  have HL := Lib.hid hl
  clear hr hl
  unfold mapV
  go_enter Try.func24, Try.ntmps24
  go_wp2
  go_loop [3, 4] (fun vc vi => ∃ k : Nat, k ≤ n ∧ vi = .int .i64 k ∧ vc = .int .i64 (wts (ms.take k) : Nat)) (fun _ vi => n - (intOf vi).toNat)
  case atStart => exact ⟨0, by omega, rfl, rfl⟩
  case round =>
    obtain ⟨k, hk, rfl, rfl⟩ := hrel
    have hwl := wts_le (ms.take k)
    rw [List.length_take] at hwl
    have hwk : wts (ms.take k) ≤ k := by omega
    clear hwl
    by_cases hlt : k < n
    · obtain ⟨ad, rfl, hbl, hc1, hc2⟩ := HR.out.mem hlt
      have hd := wts_take ms k (by have := HL.out; omega)
      obtain ⟨x, ex⟩ : ∃ x, ms.getD k (0, 0) = x := ⟨_, rfl⟩
      rw [ex] at hc1 hc2 hd
      obtain ⟨id, wt⟩ := x
      simp only at hc1 hc2 hd
      clear ex
      by_cases g : 0 < wt
      · rw [if_pos g] at hd
        have e1 : decide (0 < wt) = true := decide_eq_true g
        generalize wts (ms.take k) = c at *
        have Q := Lib.hid hd
        clear hd
        go_wp2
        exact ⟨⟨k + 1, by omega, by go_num, by rw [Q.out]; go_num⟩, by simp [intOf]; omega⟩
      · rw [if_neg g] at hd
        have e1 : decide (0 < wt) = false := decide_eq_false g
        generalize wts (ms.take k) = c at *
        have Q := Lib.hid hd
        clear hd
        go_wp2
        exact ⟨⟨k + 1, by omega, by go_num, by rw [Q.out]; rfl⟩, by simp [intOf]; omega⟩
    · obtain rfl : n = k := by omega
      have e0 := congrArg wts (List.take_of_length_le (l := ms) (i := n) (by have := HL.out; omega))
      have E0 := Lib.hid e0
      clear e0
      go_wp2
      go_ret
      exact ⟨ret_int (by rw [E0.out]), (Below.refl _ _).alloc (Nat.le_refl _) _⟩
/-! ### Places that differ -/
def cntTo (a b : List Int) : Nat → Nat
  | 0 => 0
  | k + 1 => cntTo a b k + if a.getD k 0 = b.getD k 0 then 0 else 1
def nMoves (a b : List Int) : Nat := (max a.length b.length - min a.length b.length) + cntTo a b (min a.length b.length)
theorem cntTo_le (a b : List Int) (k : Nat) : cntTo a b k ≤ k := by
  induction k with
  | zero => exact Nat.le_refl _
  | succ k ih => unfold cntTo; split <;> omega
theorem cntTo_symm (a b : List Int) (k : Nat) : cntTo a b k = cntTo b a k := by
  induction k with
  | zero => rfl
  | succ k ih =>
    unfold cntTo
    rw [ih]
    by_cases h : a.getD k 0 = b.getD k 0
    · rw [if_pos h, if_pos h.symm]
    · rw [if_neg h, if_neg (fun e => h e.symm)]
theorem cntTo_same (a : List Int) (k : Nat) : cntTo a a k = 0 := by
  induction k with
  | zero => rfl
  | succ k ih => unfold cntTo; rw [if_pos rfl, ih]
set_option maxRecDepth 100000 in
set_option maxHeartbeats 1000000 in
/-- The loop of Moves, the longer row first. -/
theorem moves_ge (A B : Option Addr) (n ca m cb : Nat) (a b : List Int) (w : World) (h1 : Reads w w.heap.size 1 A n (a.map iv)) (h2 : Reads w w.heap.size 1 B m (b.map iv)) (hn : n ≤ maxLen) (hm : m ≤ maxLen) :
    Calls Try.prog 14 #[.slice A n ca, .slice B m cb] w fun e w' => e = .returned (.int .i64 (nMoves a b : Nat)) ∧ w = w' := by
  have hla : a.length = n := by simpa using h1.1
  have hlb : b.length = m := by simpa using h2.1
  unfold maxLen at hn hm
  have R1 := Lib.hid h1
  have R2 := Lib.hid h2
  have E0 : Hid (nMoves a b = (max n m - min n m) + cntTo a b (min n m)) := Lib.hid (by unfold nMoves; rw [hla, hlb])
  clear h1 h2 hla hlb
  by_cases hlen : n < m
  · have d1 : decide (n < m) = true := decide_eq_true hlen
    have d2 : decide ((n : Int) < (m : Int)) = true := decide_eq_true (by omega)
    go_enter Try.func14, Try.ntmps14
    go_wp2
    clear d1 d2
    go_loop [5, 6, 7, 22] (fun vc _ _ vi => ∃ k : Nat, k ≤ n ∧ vi = .int .i64 k ∧ vc = .int .i64 ((m : Int) - (n : Int) + (cntTo a b k : Nat))) (fun _ _ _ vi => n - (intOf vi).toNat)
    case atStart => exact ⟨0, by omega, rfl, by simp [cntTo]⟩
    case round =>
      obtain ⟨k, hk, rfl, rfl⟩ := hrel
      have hc := cntTo_le a b k
      by_cases hlt : k < n
      · obtain ⟨a1, rfl, hb1, hc1⟩ := R1.out.intD hlt
        obtain ⟨a2, rfl, hb2, hc2⟩ := R2.out.intD (show k < m by omega)
        have hd : cntTo a b (k + 1) = cntTo a b k + if a.getD k 0 = b.getD k 0 then 0 else 1 := rfl
        obtain ⟨x, ex⟩ : ∃ x, a.getD k 0 = x := ⟨_, rfl⟩
        obtain ⟨y, ey⟩ : ∃ y, b.getD k 0 = y := ⟨_, rfl⟩
        rw [ex] at hc1 hd
        rw [ey] at hc2 hd
        clear ex ey
        generalize cntTo a b k = c at *
        by_cases hxy : x = y
        · rw [if_pos hxy] at hd
          have Q := Lib.hid hd
          have f1 : (y != x) = false := by simp [hxy]
          clear hd
          have HX := Lib.hid hxy
          clear hxy
          go_wp2
          exact ⟨⟨k + 1, by omega, by go_num, by rw [Q.out]; go_num⟩, by simp [intOf]; omega⟩
        · rw [if_neg hxy] at hd
          have Q := Lib.hid hd
          have f1 : (y != x) = true := by simp; exact fun e => hxy e.symm
          clear hd
          have HX := Lib.hid hxy
          clear hxy
          go_wp2
          exact ⟨⟨k + 1, by omega, by go_num, by rw [Q.out]; go_num⟩, by simp [intOf]; omega⟩
      · obtain rfl : n = k := by omega
        go_wp2
        go_ret
        exact ⟨ret_int (by rw [E0.out, Nat.max_eq_right (by omega), Nat.min_eq_left (by omega)]; omega), rfl⟩
  · have d1 : decide (n < m) = false := decide_eq_false hlen
    have d2 : decide ((n : Int) < (m : Int)) = false := decide_eq_false (by omega)
    go_enter Try.func14, Try.ntmps14
    go_wp2
    clear d1 d2
    go_loop [5, 6, 7, 22] (fun vc _ _ vi => ∃ k : Nat, k ≤ m ∧ vi = .int .i64 k ∧ vc = .int .i64 ((n : Int) - (m : Int) + (cntTo a b k : Nat))) (fun _ _ _ vi => m - (intOf vi).toNat)
    case atStart => exact ⟨0, by omega, rfl, by simp [cntTo]⟩
    case round =>
      obtain ⟨k, hk, rfl, rfl⟩ := hrel
      have hc := cntTo_le a b k
      by_cases hlt : k < m
      · obtain ⟨a1, rfl, hb1, hc1⟩ := R1.out.intD (show k < n by omega)
        obtain ⟨a2, rfl, hb2, hc2⟩ := R2.out.intD hlt
        have hd : cntTo a b (k + 1) = cntTo a b k + if a.getD k 0 = b.getD k 0 then 0 else 1 := rfl
        obtain ⟨x, ex⟩ : ∃ x, a.getD k 0 = x := ⟨_, rfl⟩
        obtain ⟨y, ey⟩ : ∃ y, b.getD k 0 = y := ⟨_, rfl⟩
        rw [ex] at hc1 hd
        rw [ey] at hc2 hd
        clear ex ey
        generalize cntTo a b k = c at *
        by_cases hxy : x = y
        · rw [if_pos hxy] at hd
          have Q := Lib.hid hd
          have f1 : (x != y) = false := by simp [hxy]
          clear hd
          have HX := Lib.hid hxy
          clear hxy
          go_wp2
          exact ⟨⟨k + 1, by omega, by go_num, by rw [Q.out]; go_num⟩, by simp [intOf]; omega⟩
        · rw [if_neg hxy] at hd
          have Q := Lib.hid hd
          have f1 : (x != y) = true := by simp; exact hxy
          clear hd
          have HX := Lib.hid hxy
          clear hxy
          go_wp2
          exact ⟨⟨k + 1, by omega, by go_num, by rw [Q.out]; go_num⟩, by simp [intOf]; omega⟩
      · obtain rfl : m = k := by omega
        go_wp2
        go_ret
        exact ⟨ret_int (by rw [E0.out, Nat.max_eq_left (by omega), Nat.min_eq_right (by omega)]; omega), rfl⟩
end Go.Proofs.Ytmdffmajnbokeaa
