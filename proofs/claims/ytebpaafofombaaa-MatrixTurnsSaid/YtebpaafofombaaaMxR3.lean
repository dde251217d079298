/-
  WHAT IS REFUSED; Pick, of any rows: in the program and in the reference.
-/
import Derived.Test.YtebpaafofombaaaMxR2
namespace Go.Proofs.Ytebpaafofombaaa
open Go.RowKit GfMath MxMath
set_option linter.unusedVariables false
theorem none_mm {c : Int} {w w' : World} {e : Ending} (h : RetNone c w e w') : RetMM [] c w e w' := ⟨_, h.1, MSt.nil h.2⟩
theorem lmat_cols {r n : Nat} {M : Mat} (hn : n ≤ 255) : ∀ l ∈ lmat r n M, l.length ≤ 255 := by
  intro l hl
  obtain ⟨i, _, rfl⟩ := List.mem_map.1 hl
  rw [lrow_len]; exact hn
set_option maxRecDepth 100000 in
set_option maxHeartbeats 1000000 in
theorem identity_bad1 (n : Int) (w : World) (h : n ≤ 0) :
    Calls Try.prog 11 #[.int .i64 n] w (RetNone 2 w) := by
  have e1 : decide (0 < n) = false := decide_eq_false (by omega)
  have hB := Blk.new w 26 #[.int .i64 0]
  have hcE := hB.cell 0
  have hfE := hB.frozen 0
  go_enter_defers Try.func11, Try.ntmps11
  go_wp2_with (go_at_call 32; refine (needs_bad _).mono ?_; rintro e w1 ⟨rfl, rfl⟩)
  refine leaves_cons (f := 31) (args := #[.pointer (some ⟨w.heap.size, 0, none⟩)]) (by simp) (by simp [go_sem]) ?_
  refine (refused_panicking _ _ _ _ _ hcE hfE).mono ?_
  rintro e u' w'' ⟨rfl, rfl, rfl⟩
  simp [Leaves, settle, results, Try.results11, go_sem]
  exact ⟨rfl, (Below.refl _ _).alloc (Nat.le_refl _) _⟩
set_option maxRecDepth 100000 in
set_option maxHeartbeats 1000000 in
theorem identity_bad2 (n : Int) (w : World) (h : 255 < n) :
    Calls Try.prog 11 #[.int .i64 n] w (RetNone 2 w) := by
  have e1 : decide (0 < n) = true := decide_eq_true (by omega)
  have e2 : decide (n ≤ 255) = false := decide_eq_false (by omega)
  have hB := Blk.new w 26 #[.int .i64 0]
  have hcE := hB.cell 0
  have hfE := hB.frozen 0
  go_enter_defers Try.func11, Try.ntmps11
  go_wp2_with (go_at_call 32; refine (needs_bad _).mono ?_; rintro e w1 ⟨rfl, rfl⟩)
  refine leaves_cons (f := 31) (args := #[.pointer (some ⟨w.heap.size, 0, none⟩)]) (by simp) (by simp [go_sem]) ?_
  refine (refused_panicking _ _ _ _ _ hcE hfE).mono ?_
  rintro e u' w'' ⟨rfl, rfl, rfl⟩
  simp [Leaves, settle, results, Try.results11, go_sem]
  exact ⟨rfl, (Below.refl _ _).alloc (Nat.le_refl _) _⟩
set_option maxRecDepth 100000 in
set_option maxHeartbeats 1000000 in
theorem generator_bad1 (k n : Int) (w : World) (h : k ≤ 0) :
    Calls Try.prog 17 #[.int .i64 k, .int .i64 n] w (RetNone 2 w) := by
  have e1 : decide (0 < k) = false := decide_eq_false (by omega)
  have hB := Blk.new w 26 #[.int .i64 0]
  have hcE := hB.cell 0
  have hfE := hB.frozen 0
  go_enter_defers Try.func17, Try.ntmps17
  go_wp2_with (go_at_call 32; refine (needs_bad _).mono ?_; rintro e w1 ⟨rfl, rfl⟩)
  refine leaves_cons (f := 31) (args := #[.pointer (some ⟨w.heap.size, 0, none⟩)]) (by simp) (by simp [go_sem]) ?_
  refine (refused_panicking _ _ _ _ _ hcE hfE).mono ?_
  rintro e u' w'' ⟨rfl, rfl, rfl⟩
  simp [Leaves, settle, results, Try.results17, go_sem]
  exact ⟨rfl, (Below.refl _ _).alloc (Nat.le_refl _) _⟩
set_option maxRecDepth 100000 in
set_option maxHeartbeats 1000000 in
theorem generator_bad2 (k n : Int) (w : World) (h0 : 0 < k) (h : n < k) :
    Calls Try.prog 17 #[.int .i64 k, .int .i64 n] w (RetNone 2 w) := by
  have e1 : decide (0 < k) = true := decide_eq_true (by omega)
  have e2 : decide (k ≤ n) = false := decide_eq_false (by omega)
  have hB := Blk.new w 26 #[.int .i64 0]
  have hcE := hB.cell 0
  have hfE := hB.frozen 0
  go_enter_defers Try.func17, Try.ntmps17
  go_wp2_with (go_at_call 32; refine (needs_bad _).mono ?_; rintro e w1 ⟨rfl, rfl⟩)
  refine leaves_cons (f := 31) (args := #[.pointer (some ⟨w.heap.size, 0, none⟩)]) (by simp) (by simp [go_sem]) ?_
  refine (refused_panicking _ _ _ _ _ hcE hfE).mono ?_
  rintro e u' w'' ⟨rfl, rfl, rfl⟩
  simp [Leaves, settle, results, Try.results17, go_sem]
  exact ⟨rfl, (Below.refl _ _).alloc (Nat.le_refl _) _⟩
set_option maxRecDepth 100000 in
set_option maxHeartbeats 1000000 in
theorem generator_bad3 (k n : Int) (w : World) (h0 : 0 < k) (h1 : k ≤ n) (h : 255 < n) :
    Calls Try.prog 17 #[.int .i64 k, .int .i64 n] w (RetNone 2 w) := by
  have e1 : decide (0 < k) = true := decide_eq_true (by omega)
  have e2 : decide (k ≤ n) = true := decide_eq_true (by omega)
  have e3 : decide (n ≤ 255) = false := decide_eq_false (by omega)
  have hB := Blk.new w 26 #[.int .i64 0]
  have hcE := hB.cell 0
  have hfE := hB.frozen 0
  go_enter_defers Try.func17, Try.ntmps17
  go_wp2_with (go_at_call 32; refine (needs_bad _).mono ?_; rintro e w1 ⟨rfl, rfl⟩)
  refine leaves_cons (f := 31) (args := #[.pointer (some ⟨w.heap.size, 0, none⟩)]) (by simp) (by simp [go_sem]) ?_
  refine (refused_panicking _ _ _ _ _ hcE hfE).mono ?_
  rintro e u' w'' ⟨rfl, rfl, rfl⟩
  simp [Leaves, settle, results, Try.results17, go_sem]
  exact ⟨rfl, (Below.refl _ _).alloc (Nat.le_refl _) _⟩
set_option maxRecDepth 100000 in
set_option maxHeartbeats 1000000 in
theorem rident_bad1 (n : Int) (w : World) (h : n ≤ 0) :
    Calls Try.prog 16 #[.int .i64 n] w (RetNone 2 w) := by
  have e1 : decide (n < 1) = true := decide_eq_true (by omega)
  go_enter Try.func16, Try.ntmps16
  go_wp2
  go_ret2
  exact ⟨rfl, Below.refl _ _⟩
set_option maxRecDepth 100000 in
set_option maxHeartbeats 1000000 in
theorem rident_bad2 (n : Int) (w : World) (h : 255 < n) :
    Calls Try.prog 16 #[.int .i64 n] w (RetNone 2 w) := by
  have e1 : decide (n < 1) = false := decide_eq_false (by omega)
  have e2 : decide (255 < n) = true := decide_eq_true (by omega)
  go_enter Try.func16, Try.ntmps16
  go_wp2
  go_ret2
  exact ⟨rfl, Below.refl _ _⟩
set_option maxRecDepth 100000 in
set_option maxHeartbeats 1000000 in
theorem rgen_bad1 (k n : Int) (w : World) (h : k ≤ 0) :
    Calls Try.prog 18 #[.int .i64 k, .int .i64 n] w (RetNone 2 w) := by
  have e1 : decide (k < 1) = true := decide_eq_true (by omega)
  go_enter Try.func18, Try.ntmps18
  go_wp2
  go_ret2
  exact ⟨rfl, Below.refl _ _⟩
set_option maxRecDepth 100000 in
set_option maxHeartbeats 1000000 in
theorem rgen_bad2 (k n : Int) (w : World) (h0 : 0 < k) (h : n < k) :
    Calls Try.prog 18 #[.int .i64 k, .int .i64 n] w (RetNone 2 w) := by
  have e1 : decide (k < 1) = false := decide_eq_false (by omega)
  have e2 : decide (n < k) = true := decide_eq_true (by omega)
  go_enter Try.func18, Try.ntmps18
  go_wp2
  go_ret2
  exact ⟨rfl, Below.refl _ _⟩
set_option maxRecDepth 100000 in
set_option maxHeartbeats 1000000 in
theorem rgen_bad3 (k n : Int) (w : World) (h0 : 0 < k) (h1 : k ≤ n) (h : 255 < n) :
    Calls Try.prog 18 #[.int .i64 k, .int .i64 n] w (RetNone 2 w) := by
  have e1 : decide (k < 1) = false := decide_eq_false (by omega)
  have e2 : decide (n < k) = false := decide_eq_false (by omega)
  have e3 : decide (255 < n) = true := decide_eq_true (by omega)
  go_enter Try.func18, Try.ntmps18
  go_wp2
  go_ret2
  exact ⟨rfl, Below.refl _ _⟩
/-- Both Identities answer the same. -/
theorem idents (n : Int) (hn : -9223372036854775808 ≤ n ∧ n ≤ 9223372036854775807) : ∃ ls code, ls.length ≤ 255 ∧ (∀ l ∈ ls, l.length ≤ 255) ∧ ∀ w, Calls Try.prog 11 #[.int .i64 n] w (RetMM ls code w) ∧ Calls Try.prog 16 #[.int .i64 n] w (RetMM ls code w) := by
  by_cases h0 : n ≤ 0
  · exact ⟨[], 2, by simp, by simp, fun w => ⟨(identity_bad1 n w h0).mono fun e w' k => none_mm k, (rident_bad1 n w h0).mono fun e w' k => none_mm k⟩⟩
  · by_cases h1 : 255 < n
    · exact ⟨[], 2, by simp, by simp, fun w => ⟨(identity_bad2 n w h1).mono fun e w' k => none_mm k, (rident_bad2 n w h1).mono fun e w' k => none_mm k⟩⟩
    · obtain ⟨m, rfl⟩ : ∃ m : Nat, n = (m : Int) := ⟨n.toNat, by omega⟩
      exact ⟨lmat m m dl, 0, by rw [lmat_len]; omega, lmat_cols (by omega), fun w => ⟨identity_ok m w (by omega) (by omega), rident_ok m w (by omega) (by omega)⟩⟩
/-- Both Generators answer the same. -/
theorem gens (k n : Int) : ∃ ls code, ls.length ≤ 255 ∧ (∀ l ∈ ls, l.length ≤ 255) ∧ ∀ w, Calls Try.prog 17 #[.int .i64 k, .int .i64 n] w (RetMM ls code w) ∧ Calls Try.prog 18 #[.int .i64 k, .int .i64 n] w (RetMM ls code w) := by
  by_cases h0 : k ≤ 0
  · exact ⟨[], 2, by simp, by simp, fun w => ⟨(generator_bad1 k n w h0).mono fun e w' k => none_mm k, (rgen_bad1 k n w h0).mono fun e w' k => none_mm k⟩⟩
  · by_cases h1 : n < k
    · exact ⟨[], 2, by simp, by simp, fun w => ⟨(generator_bad2 k n w (by omega) h1).mono fun e w' k => none_mm k, (rgen_bad2 k n w (by omega) h1).mono fun e w' k => none_mm k⟩⟩
    · by_cases h2 : 255 < n
      · exact ⟨[], 2, by simp, by simp, fun w => ⟨(generator_bad3 k n w (by omega) (by omega) h2).mono fun e w' k => none_mm k, (rgen_bad3 k n w (by omega) (by omega) h2).mono fun e w' k => none_mm k⟩⟩
      · obtain ⟨a, rfl⟩ : ∃ a : Nat, k = (a : Int) := ⟨k.toNat, by omega⟩
        obtain ⟨b, rfl⟩ : ∃ b : Nat, n = (b : Int) := ⟨n.toNat, by omega⟩
        exact ⟨lmat b a (genM a), 0, by rw [lmat_len]; omega, lmat_cols (by omega), fun w => ⟨generator_ok a b w (by omega) (by omega) (by omega), rgen_ok a b w (by omega) (by omega) (by omega)⟩⟩
end Go.Proofs.Ytebpaafofombaaa
