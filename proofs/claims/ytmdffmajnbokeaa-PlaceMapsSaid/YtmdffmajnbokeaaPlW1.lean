/-
  The walks of Check, the program's and the reference's.
-/
import Derived.Test.YtmdffmajnbokeaaStrW6
import Derived.Test.YtmdffmajnbokeaaPlMath
namespace Go.Proofs.Ytmdffmajnbokeaa
open Go.RowKit StrMath PlMath
set_option linter.unusedVariables false
def mcells (ms : List Mem) : List Value := ms.flatMap fun p => [iv p.1, iv p.2]
theorem mcells_len (ms : List Mem) : (mcells ms).length = ms.length * 2 := by
  unfold mcells
  induction ms with
  | nil => rfl
  | cons a l ih => rw [List.flatMap_cons, List.length_append, ih, List.length_cons]; simp; omega
theorem mcells_get (ms : List Mem) : ∀ k, k < ms.length → (mcells ms)[k * 2]? = some (iv (ms.getD k (0, 0)).1) ∧ (mcells ms)[k * 2 + 1]? = some (iv (ms.getD k (0, 0)).2) := by
  unfold mcells
  induction ms with
  | nil => intro k h; simp at h
  | cons a l ih =>
    intro k h
    rw [List.flatMap_cons]
    cases k with
    | zero => exact ⟨rfl, rfl⟩
    | succ k =>
      have := ih k (by simpa using h)
      rw [show (k + 1) * 2 = k * 2 + 2 from by omega, show k * 2 + 2 + 1 = k * 2 + 1 + 2 from by omega]
      simpa using this
theorem add_next (a : Addr) (i : Nat) : a.add (i + 1) = { block := (a.add i).block, off := (a.add i).off + 1 } := by
  unfold Addr.add
  by_cases h : i = 0
  · subst h; simp
  · simp [h]; omega
/-- A row of members: member k's cells. -/
theorem Reads.mem {w : World} {B n : Nat} {A : Option Addr} {ms : List Mem} (h : Reads w B 2 A n (mcells ms)) {k : Nat} (hk : k < n) :
    ∃ ad, A = some ad ∧ ad.block < B ∧ w.cell? (ad.add (k * 2)) = some (.int .i64 (ms.getD k (0, 0)).1) ∧ w.cell? { block := (ad.add (k * 2)).block, off := (ad.add (k * 2)).off + 1 } = some (.int .i64 (ms.getD k (0, 0)).2) := by
  have hl := h.1
  rw [mcells_len] at hl
  obtain ⟨ad, e, hb, hc⟩ := h.2 (by omega)
  have hg := mcells_get ms k (by omega)
  exact ⟨ad, e, hb, hc _ _ hg.1, by rw [← add_next]; exact hc _ _ hg.2⟩
def M64 (ms : List Mem) : Prop := ∀ x ∈ ms, (-9223372036854775808 ≤ x.1 ∧ x.1 ≤ 9223372036854775807) ∧ (-9223372036854775808 ≤ x.2 ∧ x.2 ≤ 9223372036854775807)
theorem M64.get {ms : List Mem} (h : M64 ms) {k : Nat} (hk : k < ms.length) : (-9223372036854775808 ≤ (ms.getD k (0, 0)).1 ∧ (ms.getD k (0, 0)).1 ≤ 9223372036854775807) ∧ (-9223372036854775808 ≤ (ms.getD k (0, 0)).2 ∧ (ms.getD k (0, 0)).2 ≤ 9223372036854775807) := by
  rw [List.getD_eq_getElem?_getD, List.getElem?_eq_getElem hk]
  exact h _ (List.getElem_mem hk)
/-- A map as a value. -/
def mapV (e : Nat) (A : Option Addr) (n cap : Nat) : Value := .agg #[.int .u64 (e : Int), .slice A n cap]
def errM (b : Bool) : Int := if b then 0 else 110
theorem chk_short {ms : List Mem} (h : ms.length ≤ 32) : chk ms = chkL ms 0 := by unfold chk; rw [decide_eq_true h]; rfl
theorem chkL_drop (ms : List Mem) (k : Nat) (h : k < ms.length) (last : Int) :
    chkL (ms.drop k) last = (decide (last < (ms.getD k (0, 0)).1 ∧ (ms.getD k (0, 0)).1 ≤ 32 ∧ 0 ≤ (ms.getD k (0, 0)).2 ∧ (ms.getD k (0, 0)).2 ≤ 65535) && chkL (ms.drop (k + 1)) (ms.getD k (0, 0)).1) := by
  rw [List.drop_eq_getElem_cons h, chkL, List.getD_eq_getElem?_getD, List.getElem?_eq_getElem h]
  rfl
set_option maxRecDepth 100000 in
theorem check_any (e : Nat) (A : Option Addr) (n cap : Nat) (ms : List Mem) (w : World) (hr : Reads w w.heap.size 2 A n (mcells ms)) (h64 : M64 ms) (hc : n ≤ cap) (hm : cap ≤ maxLen) :
    Calls Try.prog 21 #[mapV e A n cap] w fun e w' => e = .returned (.int .i64 (errM (chk ms))) ∧ Below w.heap.size w w' := by
  unfold maxLen at hm
  have hl : ms.length = n := by have := hr.1; rw [mcells_len] at this; omega
  have HR := Lib.hid hr
  clear hr
  unfold mapV
  by_cases h32 : 32 < n
  · have d1 : decide (32 < n) = true := decide_eq_true h32
    have d2 : decide ((32 : Int) < (n : Int)) = true := decide_eq_true (by omega)
    have e0 : errM (chk ms) = 110 := by unfold errM chk; rw [decide_eq_false (by omega)]; rfl
    rw [e0]
    clear e0 hl
    go_enter Try.func21, Try.ntmps21
    go_wp2
    go_ret
    exact ⟨rfl, (Below.refl _ _).alloc (Nat.le_refl _) _⟩
  · have d1 : decide (32 < n) = false := decide_eq_false h32
    have d2 : decide ((32 : Int) < (n : Int)) = false := decide_eq_false (by omega)
    rw [chk_short (by omega)]
    have HL := Lib.hid hl
    clear hl
    go_enter Try.func21, Try.ntmps21
    go_wp2
    go_loopw [3, 5, 13] (fun vl _ vi wr => ∃ k : Nat, ∃ last : Int, k ≤ n ∧ vi = .int .i64 k ∧ vl = .int .i64 last ∧ Hid (chkL ms 0 = chkL (ms.drop k) last) ∧ Below w.heap.size w wr ∧ Hid (wr.cell? ⟨w.heap.size, 1, none⟩ = some (.slice A n cap)) ∧ w.heap.size < wr.heap.size) (fun _ _ vi _ => n - (intOf vi).toNat)
    case atStart => exact ⟨0, 0, by omega, rfl, rfl, Lib.hid rfl, (Below.refl _ _).alloc (Nat.le_refl _) _, Lib.hid (by simp), by simp⟩
    case round =>
      obtain ⟨k, last, hk, rfl, rfl, hq, hb, hcb, hsz⟩ := hrel
      have hcb' := hcb.out
      by_cases hlt : k < n
      · obtain ⟨ad, rfl, hbl, hc1, hc2⟩ := (HR.out.below hb).mem hlt
        have h6 := h64.get (k := k) (by have := HL.out; omega)
        have hd := chkL_drop ms k (by have := HL.out; omega) last
        obtain ⟨x, ex⟩ : ∃ x, ms.getD k (0, 0) = x := ⟨_, rfl⟩
        rw [ex] at hc1 hc2 h6 hd
        obtain ⟨id, wt⟩ := x
        simp only at hc1 hc2 h6 hd
        clear ex
        have hb2 := hb.alloc (Nat.le_of_lt hsz) (.cells #[.int .i64 id, .int .i64 wt] 41)
        by_cases g : last < id ∧ id ≤ 32 ∧ 0 ≤ wt ∧ wt ≤ 65535
        · rw [decide_eq_true g, Bool.true_and] at hd
          have Q := Lib.hid (hq.out.trans hd)
          have e1 : decide (id ≤ last) = false := decide_eq_false (by omega)
          have e2 : decide (32 < id) = false := decide_eq_false (by omega)
          have e3 : decide (wt < 0) = false := decide_eq_false (by omega)
          have e4 : decide (65535 < wt) = false := decide_eq_false (by omega)
          clear hd hq
          go_wp2
          exact ⟨⟨k + 1, id, by omega, by go_num, rfl, Q, hb2, Lib.hid (by simp [World.cell?_alloc_lt, hsz, hcb']), by simp; omega⟩, by simp [intOf]; omega⟩
        · rw [decide_eq_false g, Bool.false_and] at hd
          have e0 : errM (chkL ms 0) = 110 := by rw [hq.out, hd]; rfl
          have E0 := Lib.hid e0
          have aux : decide (id ≤ last) = true ∨ (decide (id ≤ last) = false ∧ decide (32 < id) = true) ∨ (decide (id ≤ last) = false ∧ decide (32 < id) = false ∧ decide (wt < 0) = true) ∨
              (decide (id ≤ last) = false ∧ decide (32 < id) = false ∧ decide (wt < 0) = false ∧ decide (65535 < wt) = true) := by
            simp only [decide_eq_true_eq, decide_eq_false_iff_not]; omega
          clear hd hq e0 g
          rcases aux with e1 | ⟨e1, e2⟩ | ⟨e1, e2, e3⟩ | ⟨e1, e2, e3, e4⟩
          all_goals
            go_wp2
            go_ret
            exact ⟨ret_int E0.out.symm, hb2⟩
      · have e0 : errM (chkL ms 0) = 0 := by rw [hq.out, List.drop_eq_nil_of_le (by have := HL.out; omega)]; rfl
        have E0 := Lib.hid e0
        clear hq e0
        go_wp2
        go_ret
        exact ⟨ret_int E0.out.symm, hb⟩
set_option maxRecDepth 100000 in
theorem rcheck_any (e : Nat) (A : Option Addr) (n cap : Nat) (ms : List Mem) (w : World) (hr : Reads w w.heap.size 2 A n (mcells ms)) (h64 : M64 ms) (hc : n ≤ cap) (hm : cap ≤ maxLen) :
    Calls Try.prog 22 #[mapV e A n cap] w fun e w' => e = .returned (.int .i64 (errM (chk ms))) ∧ Below w.heap.size w w' := by
  unfold maxLen at hm
  have hl : ms.length = n := by have := hr.1; rw [mcells_len] at this; omega
  have HR := Lib.hid hr
  clear hr
  unfold mapV
  by_cases h32 : 32 < n
  · have d1 : decide (32 < n) = true := decide_eq_true h32
    have d2 : decide ((32 : Int) < (n : Int)) = true := decide_eq_true (by omega)
    have e0 : errM (chk ms) = 110 := by unfold errM chk; rw [decide_eq_false (by omega)]; rfl
    rw [e0]
    clear e0 hl
    go_enter Try.func22, Try.ntmps22
    go_wp2
    go_ret
    exact ⟨rfl, (Below.refl _ _).alloc (Nat.le_refl _) _⟩
  · have d1 : decide (32 < n) = false := decide_eq_false h32
    have d2 : decide ((32 : Int) < (n : Int)) = false := decide_eq_false (by omega)
    rw [chk_short (by omega)]
    have HL := Lib.hid hl
    clear hl
    go_enter Try.func22, Try.ntmps22
    go_wp2
    go_loopw [3, 4, 5] (fun vl vi _ wr => ∃ k : Nat, ∃ last : Int, k ≤ n ∧ vi = .int .i64 k ∧ vl = .int .i64 last ∧ Hid (chkL ms 0 = chkL (ms.drop k) last) ∧ Below w.heap.size w wr ∧ Hid (wr.cell? ⟨w.heap.size, 1, none⟩ = some (.slice A n cap)) ∧ w.heap.size < wr.heap.size) (fun _ vi _ _ => n - (intOf vi).toNat)
    case atStart => exact ⟨0, 0, by omega, rfl, rfl, Lib.hid rfl, (Below.refl _ _).alloc (Nat.le_refl _) _, Lib.hid (by simp), by simp⟩
    case round =>
      obtain ⟨k, last, hk, rfl, rfl, hq, hb, hcb, hsz⟩ := hrel
      have hcb' := hcb.out
      by_cases hlt : k < n
      · obtain ⟨ad, rfl, hbl, hc1, hc2⟩ := (HR.out.below hb).mem hlt
        have h6 := h64.get (k := k) (by have := HL.out; omega)
        have hd := chkL_drop ms k (by have := HL.out; omega) last
        obtain ⟨x, ex⟩ : ∃ x, ms.getD k (0, 0) = x := ⟨_, rfl⟩
        rw [ex] at hc1 hc2 h6 hd
        obtain ⟨id, wt⟩ := x
        simp only at hc1 hc2 h6 hd
        clear ex
        have hb2 := hb.alloc (Nat.le_of_lt hsz) (.cells #[.int .i64 id, .int .i64 wt] 41)
        by_cases g : last < id ∧ id ≤ 32 ∧ 0 ≤ wt ∧ wt ≤ 65535
        · rw [decide_eq_true g, Bool.true_and] at hd
          have Q := Lib.hid (hq.out.trans hd)
          have e1 : decide (id ≤ last) = false := decide_eq_false (by omega)
          have e2 : decide (32 < id) = false := decide_eq_false (by omega)
          have e3 : decide (wt < 0) = false := decide_eq_false (by omega)
          have e4 : decide (65535 < wt) = false := decide_eq_false (by omega)
          clear hd hq
          go_wp2
          exact ⟨⟨k + 1, id, by omega, by go_num, rfl, Q, hb2, Lib.hid (by simp [World.cell?_alloc_lt, hsz, hcb']), by simp; omega⟩, by simp [intOf]; omega⟩
        · rw [decide_eq_false g, Bool.false_and] at hd
          have e0 : errM (chkL ms 0) = 110 := by rw [hq.out, hd]; rfl
          have E0 := Lib.hid e0
          have aux : decide (id ≤ last) = true ∨ (decide (id ≤ last) = false ∧ decide (32 < id) = true) ∨ (decide (id ≤ last) = false ∧ decide (32 < id) = false ∧ decide (wt < 0) = true) ∨
              (decide (id ≤ last) = false ∧ decide (32 < id) = false ∧ decide (wt < 0) = false ∧ decide (65535 < wt) = true) := by
            simp only [decide_eq_true_eq, decide_eq_false_iff_not]; omega
          clear hd hq e0 g
          rcases aux with e1 | ⟨e1, e2⟩ | ⟨e1, e2, e3⟩ | ⟨e1, e2, e3, e4⟩
          all_goals
            go_wp2
            go_ret
            exact ⟨ret_int E0.out.symm, hb2⟩
      · have e0 : errM (chkL ms 0) = 0 := by rw [hq.out, List.drop_eq_nil_of_le (by have := HL.out; omega)]; rfl
        have E0 := Lib.hid e0
        clear hq e0
        go_wp2
        go_ret
        exact ⟨ret_int E0.out.symm, hb⟩
end Go.Proofs.Ytmdffmajnbokeaa
