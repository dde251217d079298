/-
  WHAT THE PROGRAM AND THE REFERENCE REFUSE OF MATRICES; both answer the same.
-/
import Derived.Test.YtebpaafofombaaaMxT5
namespace Go.Proofs.Ytebpaafofombaaa
open Go.RowKit GfMath MxMath
set_option linter.unusedVariables false
def RetN3 (r c code : Int) (w : World) (e : Ending) (w' : World) : Prop := e = .returned (.tuple #[.int .i64 r, .int .i64 c, .int .i64 code]) ∧ Below w.heap.size w w'
set_option maxRecDepth 100000 in
set_option maxHeartbeats 1000000 in
theorem check_bad (A : Option Addr) (ca : Nat) (ls : List (List Nat)) (w : World) (HA : Hid (InM w A ca ls)) (hg : ¬ ∃ n, Good ls n) :
    Calls Try.prog 25 #[.slice A ls.length ca] w (RetN3 0 0 20 w) := by
  have HG := Lib.hid hg
  clear hg
  obtain ⟨r, hr⟩ : ∃ r, ls.length = r := ⟨_, rfl⟩
  have HSB := Lib.hid (fun w1 (h : Hid (InM w1 A ca ls)) => sized_bad A ca ls w1 h HG.out)
  rw [hr] at HSB ⊢
  clear hr
  have hB := Blk.new w 26 #[.int .i64 0]
  have hb := (Below.refl w.heap.size w).alloc (Nat.le_refl _) (.cells #[.int .i64 0] 26)
  have HA1 := Lib.hid (HA.out.later hb)
  clear hb
  have hcE := hB.cell 0
  have hfE := hB.frozen 0
  go_enter_defers Try.func25, Try.ntmps25
  go_wp2_with (go_at_call 33; refine (HSB.out _ HA1).mono ?_; rintro e w1 ⟨rfl, rfl⟩)
  refine leaves_cons (f := 31) (args := #[.pointer (some ⟨w.heap.size, 0, none⟩)]) (by simp) (by simp [go_sem]) ?_
  refine (refused_panicking _ _ _ _ _ hcE hfE).mono ?_
  rintro e u' w'' ⟨rfl, rfl, rfl⟩
  simp [Leaves, settle, results, Try.results25, go_sem]
  exact ⟨rfl, (Below.refl _ _).alloc (Nat.le_refl _) _⟩
set_option maxRecDepth 100000 in
set_option maxHeartbeats 1000000 in
theorem invert_bad (A : Option Addr) (ca : Nat) (ls : List (List Nat)) (w : World) (HA : Hid (InM w A ca ls)) (hg : ¬ ∃ n, Good ls n) :
    Calls Try.prog 12 #[.slice A ls.length ca] w (RetNone 20 w) := by
  have HG := Lib.hid hg
  clear hg
  obtain ⟨r, hr⟩ : ∃ r, ls.length = r := ⟨_, rfl⟩
  have HSB := Lib.hid (fun w1 (h : Hid (InM w1 A ca ls)) => sized_bad A ca ls w1 h HG.out)
  rw [hr] at HSB ⊢
  clear hr
  have hB := Blk.new w 26 #[.int .i64 0]
  have hb := (Below.refl w.heap.size w).alloc (Nat.le_refl _) (.cells #[.int .i64 0] 26)
  have HA1 := Lib.hid (HA.out.later hb)
  clear hb
  have hcE := hB.cell 0
  have hfE := hB.frozen 0
  go_enter_defers Try.func12, Try.ntmps12
  go_wp2_with (go_at_call 33; refine (HSB.out _ HA1).mono ?_; rintro e w1 ⟨rfl, rfl⟩)
  refine leaves_cons (f := 31) (args := #[.pointer (some ⟨w.heap.size, 0, none⟩)]) (by simp) (by simp [go_sem]) ?_
  refine (refused_panicking _ _ _ _ _ hcE hfE).mono ?_
  rintro e u' w'' ⟨rfl, rfl, rfl⟩
  simp [Leaves, settle, results, Try.results12, go_sem]
  exact ⟨rfl, (Below.refl _ _).alloc (Nat.le_refl _) _⟩
set_option maxRecDepth 100000 in
set_option maxHeartbeats 1000000 in
theorem rank_bad (A : Option Addr) (ca : Nat) (ls : List (List Nat)) (w : World) (HA : Hid (InM w A ca ls)) (hg : ¬ ∃ n, Good ls n) :
    Calls Try.prog 13 #[.slice A ls.length ca] w (RetNum 0 20 w) := by
  have HG := Lib.hid hg
  clear hg
  obtain ⟨r, hr⟩ : ∃ r, ls.length = r := ⟨_, rfl⟩
  have HSB := Lib.hid (fun w1 (h : Hid (InM w1 A ca ls)) => sized_bad A ca ls w1 h HG.out)
  rw [hr] at HSB ⊢
  clear hr
  have hB := Blk.new w 26 #[.int .i64 0]
  have hb := (Below.refl w.heap.size w).alloc (Nat.le_refl _) (.cells #[.int .i64 0] 26)
  have HA1 := Lib.hid (HA.out.later hb)
  clear hb
  have hcE := hB.cell 0
  have hfE := hB.frozen 0
  go_enter_defers Try.func13, Try.ntmps13
  go_wp2_with (go_at_call 33; refine (HSB.out _ HA1).mono ?_; rintro e w1 ⟨rfl, rfl⟩)
  refine leaves_cons (f := 31) (args := #[.pointer (some ⟨w.heap.size, 0, none⟩)]) (by simp) (by simp [go_sem]) ?_
  refine (refused_panicking _ _ _ _ _ hcE hfE).mono ?_
  rintro e u' w'' ⟨rfl, rfl, rfl⟩
  simp [Leaves, settle, results, Try.results13, go_sem]
  exact ⟨rfl, (Below.refl _ _).alloc (Nat.le_refl _) _⟩
set_option maxRecDepth 100000 in
set_option maxHeartbeats 1000000 in
theorem apply_bad (A : Option Addr) (ca : Nat) (v : Value) (ls : List (List Nat)) (w : World) (HA : Hid (InM w A ca ls)) (hg : ¬ ∃ n, Good ls n) :
    Calls Try.prog 21 #[.slice A ls.length ca, v] w (RetNone 20 w) := by
  have HG := Lib.hid hg
  clear hg
  obtain ⟨r, hr⟩ : ∃ r, ls.length = r := ⟨_, rfl⟩
  have HSB := Lib.hid (fun w1 (h : Hid (InM w1 A ca ls)) => sized_bad A ca ls w1 h HG.out)
  rw [hr] at HSB ⊢
  clear hr
  have hB := Blk.new w 26 #[.int .i64 0]
  have hb := (Below.refl w.heap.size w).alloc (Nat.le_refl _) (.cells #[.int .i64 0] 26)
  have HA1 := Lib.hid (HA.out.later hb)
  clear hb
  have hcE := hB.cell 0
  have hfE := hB.frozen 0
  go_enter_defers Try.func21, Try.ntmps21
  go_wp2_with (go_at_call 33; refine (HSB.out _ HA1).mono ?_; rintro e w1 ⟨rfl, rfl⟩)
  refine leaves_cons (f := 31) (args := #[.pointer (some ⟨w.heap.size, 0, none⟩)]) (by simp) (by simp [go_sem]) ?_
  refine (refused_panicking _ _ _ _ _ hcE hfE).mono ?_
  rintro e u' w'' ⟨rfl, rfl, rfl⟩
  simp [Leaves, settle, results, Try.results21, go_sem]
  exact ⟨rfl, (Below.refl _ _).alloc (Nat.le_refl _) _⟩
set_option maxRecDepth 100000 in
set_option maxHeartbeats 1000000 in
theorem mul_bad1 (A : Option Addr) (ca : Nat) (v : Value) (ls : List (List Nat)) (w : World) (HA : Hid (InM w A ca ls)) (hg : ¬ ∃ n, Good ls n) :
    Calls Try.prog 14 #[.slice A ls.length ca, v] w (RetNone 20 w) := by
  have HG := Lib.hid hg
  clear hg
  obtain ⟨r, hr⟩ : ∃ r, ls.length = r := ⟨_, rfl⟩
  have HSB := Lib.hid (fun w1 (h : Hid (InM w1 A ca ls)) => sized_bad A ca ls w1 h HG.out)
  rw [hr] at HSB ⊢
  clear hr
  have hB := Blk.new w 26 #[.int .i64 0]
  have hb := (Below.refl w.heap.size w).alloc (Nat.le_refl _) (.cells #[.int .i64 0] 26)
  have HA1 := Lib.hid (HA.out.later hb)
  clear hb
  have hcE := hB.cell 0
  have hfE := hB.frozen 0
  go_enter_defers Try.func14, Try.ntmps14
  go_wp2_with (go_at_call 33; refine (HSB.out _ HA1).mono ?_; rintro e w1 ⟨rfl, rfl⟩)
  refine leaves_cons (f := 31) (args := #[.pointer (some ⟨w.heap.size, 0, none⟩)]) (by simp) (by simp [go_sem]) ?_
  refine (refused_panicking _ _ _ _ _ hcE hfE).mono ?_
  rintro e u' w'' ⟨rfl, rfl, rfl⟩
  simp [Leaves, settle, results, Try.results14, go_sem]
  exact ⟨rfl, (Below.refl _ _).alloc (Nat.le_refl _) _⟩
set_option maxRecDepth 100000 in
set_option maxHeartbeats 1000000 in
theorem mul_bad2 (A B : Option Addr) (ca cb r n : Nat) (M : Mat) (ls : List (List Nat)) (w : World) (HA : Hid (InM w A ca (lmat r n M))) (HB : Hid (InM w B cb ls)) (r0 : 0 < r) (r1 : r ≤ 255) (n0 : 0 < n) (n1 : n ≤ 255) (hg : ¬ ∃ n, Good ls n) :
    Calls Try.prog 14 #[.slice A r ca, .slice B ls.length cb] w (RetNone 20 w) := by
  have HG := Lib.hid hg
  clear hg
  obtain ⟨q, hq⟩ : ∃ q, ls.length = q := ⟨_, rfl⟩
  have HSB := Lib.hid (fun w1 (h : Hid (InM w1 B cb ls)) => sized_bad B cb ls w1 h HG.out)
  rw [hq] at HSB ⊢
  clear hq
  have tk1 : True := trivial
  have hB := Blk.new w 26 #[.int .i64 0]
  have hb := (Below.refl w.heap.size w).alloc (Nat.le_refl _) (.cells #[.int .i64 0] 26)
  have HA1 := Lib.hid (HA.out.later hb)
  have HB1 := Lib.hid (HB.out.later hb)
  clear hb
  have hcE := hB.cell 0
  have hfE := hB.frozen 0
  go_enter_defers Try.func14, Try.ntmps14
  go_wp2_with (first
    | (go_at_call 33; have _t := tk1; refine (sized_mat _ _ _ _ _ _ HA1 (by assumption) (by assumption) (by assumption) (by assumption)).mono ?_; rintro e w1 ⟨rfl, rfl⟩; clear tk1 _t)
    | (go_at_call 33; refine (HSB.out _ HB1).mono ?_; rintro e w1 ⟨rfl, rfl⟩))
  refine leaves_cons (f := 31) (args := #[.pointer (some ⟨w.heap.size, 0, none⟩)]) (by simp) (by simp [go_sem]) ?_
  refine (refused_panicking _ _ _ _ _ hcE hfE).mono ?_
  rintro e u' w'' ⟨rfl, rfl, rfl⟩
  simp [Leaves, settle, results, Try.results14, go_sem]
  exact ⟨rfl, (Below.refl _ _).alloc (Nat.le_refl _) _⟩
set_option maxRecDepth 100000 in
set_option maxHeartbeats 1000000 in
theorem mul_differ (A B : Option Addr) (ca cb r n q m : Nat) (M K : Mat) (w : World) (HA : Hid (InM w A ca (lmat r n M))) (HB : Hid (InM w B cb (lmat q m K))) (r0 : 0 < r) (r1 : r ≤ 255) (n0 : 0 < n) (n1 : n ≤ 255) (q0 : 0 < q) (q1 : q ≤ 255) (m0 : 0 < m) (m1 : m ≤ 255) (hne : n ≠ q) :
    Calls Try.prog 14 #[.slice A r ca, .slice B q cb] w (RetNone 2 w) := by
  have e1 : ((n : Int) == (q : Int)) = false := by simp; omega
  clear hne
  have tk1 : True := trivial
  have hB := Blk.new w 26 #[.int .i64 0]
  have hb := (Below.refl w.heap.size w).alloc (Nat.le_refl _) (.cells #[.int .i64 0] 26)
  have HA1 := Lib.hid (HA.out.later hb)
  have HB1 := Lib.hid (HB.out.later hb)
  clear hb
  have hcE := hB.cell 0
  have hfE := hB.frozen 0
  go_enter_defers Try.func14, Try.ntmps14
  go_wp2_with (first
    | (go_at_call 33; have _t := tk1; refine (sized_mat _ _ _ _ _ _ HA1 (by assumption) (by assumption) (by assumption) (by assumption)).mono ?_; rintro e w1 ⟨rfl, rfl⟩; clear tk1 _t)
    | (go_at_call 33; refine (sized_mat _ _ _ _ _ _ HB1 q0 q1 m0 m1).mono ?_; rintro e w1 ⟨rfl, rfl⟩)
    | (go_at_call 32; refine (needs_bad _).mono ?_; rintro e w1 ⟨rfl, rfl⟩))
  refine leaves_cons (f := 31) (args := #[.pointer (some ⟨w.heap.size, 0, none⟩)]) (by simp) (by simp [go_sem]) ?_
  refine (refused_panicking _ _ _ _ _ hcE hfE).mono ?_
  rintro e u' w'' ⟨rfl, rfl, rfl⟩
  simp [Leaves, settle, results, Try.results14, go_sem]
  exact ⟨rfl, (Below.refl _ _).alloc (Nat.le_refl _) _⟩
set_option maxRecDepth 100000 in
set_option maxHeartbeats 1000000 in
theorem invert_flat (A : Option Addr) (ca r n : Nat) (M : Mat) (w : World) (HA : Hid (InM w A ca (lmat r n M))) (r0 : 0 < r) (r1 : r ≤ 255) (n0 : 0 < n) (n1 : n ≤ 255) (hne : r ≠ n) :
    Calls Try.prog 12 #[.slice A r ca] w (RetNone 2 w) := by
  have e1 : ((r : Int) == (n : Int)) = false := by simp; omega
  clear hne
  have hB := Blk.new w 26 #[.int .i64 0]
  have hb := (Below.refl w.heap.size w).alloc (Nat.le_refl _) (.cells #[.int .i64 0] 26)
  have HA1 := Lib.hid (HA.out.later hb)
  clear hb
  have hcE := hB.cell 0
  have hfE := hB.frozen 0
  go_enter_defers Try.func12, Try.ntmps12
  go_wp2_with (first
    | (go_at_call 33; refine (sized_mat _ _ _ _ _ _ HA1 (by assumption) (by assumption) (by assumption) (by assumption)).mono ?_; rintro e w1 ⟨rfl, rfl⟩)
    | (go_at_call 32; refine (needs_bad _).mono ?_; rintro e w1 ⟨rfl, rfl⟩))
  refine leaves_cons (f := 31) (args := #[.pointer (some ⟨w.heap.size, 0, none⟩)]) (by simp) (by simp [go_sem]) ?_
  refine (refused_panicking _ _ _ _ _ hcE hfE).mono ?_
  rintro e u' w'' ⟨rfl, rfl, rfl⟩
  simp [Leaves, settle, results, Try.results12, go_sem]
  exact ⟨rfl, (Below.refl _ _).alloc (Nat.le_refl _) _⟩
set_option maxRecDepth 100000 in
set_option maxHeartbeats 1000000 in
theorem apply_differ (A B : Option Addr) (ca cb r n m : Nat) (M : Mat) (w : World) (HA : Hid (InM w A ca (lmat r n M))) (r0 : 0 < r) (r1 : r ≤ 255) (n0 : 0 < n) (n1 : n ≤ 255) (hne : m ≠ n) :
    Calls Try.prog 21 #[.slice A r ca, .slice B m cb] w (RetNone 2 w) := by
  have e1 : ((m : Int) == (n : Int)) = false := by simp; omega
  clear hne
  have hB := Blk.new w 26 #[.int .i64 0]
  have hb := (Below.refl w.heap.size w).alloc (Nat.le_refl _) (.cells #[.int .i64 0] 26)
  have HA1 := Lib.hid (HA.out.later hb)
  clear hb
  have hcE := hB.cell 0
  have hfE := hB.frozen 0
  go_enter_defers Try.func21, Try.ntmps21
  go_wp2_with (first
    | (go_at_call 33; refine (sized_mat _ _ _ _ _ _ HA1 (by assumption) (by assumption) (by assumption) (by assumption)).mono ?_; rintro e w1 ⟨rfl, rfl⟩)
    | (go_at_call 32; refine (needs_bad _).mono ?_; rintro e w1 ⟨rfl, rfl⟩))
  refine leaves_cons (f := 31) (args := #[.pointer (some ⟨w.heap.size, 0, none⟩)]) (by simp) (by simp [go_sem]) ?_
  refine (refused_panicking _ _ _ _ _ hcE hfE).mono ?_
  rintro e u' w'' ⟨rfl, rfl, rfl⟩
  simp [Leaves, settle, results, Try.results21, go_sem]
  exact ⟨rfl, (Below.refl _ _).alloc (Nat.le_refl _) _⟩
set_option maxRecDepth 100000 in
set_option maxHeartbeats 1000000 in
theorem check_ok (A : Option Addr) (ca r n : Nat) (M : Mat) (w : World) (HA : Hid (InM w A ca (lmat r n M))) (r0 : 0 < r) (r1 : r ≤ 255) (n0 : 0 < n) (n1 : n ≤ 255) :
    Calls Try.prog 25 #[.slice A r ca] w (RetN3 r n 0 w) := by
  have HST : Hid (ESt w (.slice none 0 0) [] (w.alloc (.cells #[.int .i64 0] 26))) := Lib.hid (ESt.new w)
  have HA1 := Lib.hid (HA.out.later HST.out.bel)
  have hcE := HST.out.err.cell 0
  have hfE := HST.out.err.frozen 0
  go_enter_defers Try.func25, Try.ntmps25
  go_wp2_with (go_at_call 33; refine (sized_mat _ _ _ _ _ _ HA1 (by assumption) (by assumption) (by assumption) (by assumption)).mono ?_; rintro e w1 ⟨rfl, rfl⟩)
  refine leaves_cons (f := 31) (args := #[.pointer (some ⟨w.heap.size, 0, none⟩)]) (by simp) (by simp [go_sem]) ?_
  refine (refused_idle _ _).mono ?_
  rintro e u' w'' ⟨rfl, rfl, rfl⟩
  simp [Leaves, settle, results, Try.results25, go_sem]
  exact ⟨rfl, (Below.refl _ _).alloc (Nat.le_refl _) _⟩
set_option maxRecDepth 100000 in
set_option maxHeartbeats 1000000 in
theorem rinvert_bad (A : Option Addr) (ca : Nat) (ls : List (List Nat)) (w : World) (HA : Hid (InM w A ca ls)) (hg : ¬ ∃ n, Good ls n) :
    Calls Try.prog 28 #[.slice A ls.length ca] w (RetNone 20 w) := by
  have HCK := Lib.hid (rcheck_bad A ca ls w HA hg)
  clear hg
  obtain ⟨r, hr⟩ : ∃ r, ls.length = r := ⟨_, rfl⟩
  rw [hr] at HCK ⊢
  clear hr
  go_enter Try.func28, Try.ntmps28
  go_wp2_with (go_at_call 26; refine (HCK.out).mono ?_; rintro e w1 ⟨rfl, hb⟩; have HB1 := Lib.hid hb; clear hb)
  go_ret2
  exact ⟨rfl, HB1.out⟩
set_option maxRecDepth 100000 in
set_option maxHeartbeats 1000000 in
theorem rrank_bad (A : Option Addr) (ca : Nat) (ls : List (List Nat)) (w : World) (HA : Hid (InM w A ca ls)) (hg : ¬ ∃ n, Good ls n) :
    Calls Try.prog 29 #[.slice A ls.length ca] w (RetNum 0 20 w) := by
  have HCK := Lib.hid (rcheck_bad A ca ls w HA hg)
  clear hg
  obtain ⟨r, hr⟩ : ∃ r, ls.length = r := ⟨_, rfl⟩
  rw [hr] at HCK ⊢
  clear hr
  go_enter Try.func29, Try.ntmps29
  go_wp2_with (go_at_call 26; refine (HCK.out).mono ?_; rintro e w1 ⟨rfl, hb⟩; have HB1 := Lib.hid hb; clear hb)
  go_ret2
  exact ⟨rfl, HB1.out⟩
set_option maxRecDepth 100000 in
set_option maxHeartbeats 1000000 in
theorem rapply_bad (A : Option Addr) (ca : Nat) (v : Value) (ls : List (List Nat)) (w : World) (HA : Hid (InM w A ca ls)) (hg : ¬ ∃ n, Good ls n) :
    Calls Try.prog 30 #[.slice A ls.length ca, v] w (RetNone 20 w) := by
  have HCK := Lib.hid (rcheck_bad A ca ls w HA hg)
  clear hg
  obtain ⟨r, hr⟩ : ∃ r, ls.length = r := ⟨_, rfl⟩
  rw [hr] at HCK ⊢
  clear hr
  go_enter Try.func30, Try.ntmps30
  go_wp2_with (go_at_call 26; refine (HCK.out).mono ?_; rintro e w1 ⟨rfl, hb⟩; have HB1 := Lib.hid hb; clear hb)
  go_ret2
  exact ⟨rfl, HB1.out⟩
set_option maxRecDepth 100000 in
set_option maxHeartbeats 1000000 in
theorem rcheck_any (ls : List (List Nat)) (hby : ∀ l ∈ ls, Byt l) : ∃ r c code : Int, (code = 0 ∨ code = 20) ∧ ((∃ n, Good ls n) → code = 0) ∧ ((¬ ∃ n, Good ls n) → code = 20) ∧ (∀ n, Good ls n → r = ls.length ∧ c = n) ∧ ∀ (A : Option Addr) (ca : Nat) (w : World), Hid (InM w A ca ls) →
    Calls Try.prog 25 #[.slice A ls.length ca] w (RetN3 r c code w) ∧ Calls Try.prog 26 #[.slice A ls.length ca] w (RetN3 r c code w) := by
  by_cases hg : ∃ n, Good ls n
  · obtain ⟨n, hg'⟩ := hg
    refine ⟨ls.length, n, 0, .inl rfl, fun _ => rfl, fun h => absurd ⟨n, hg'⟩ h, fun m hm => ⟨rfl, by have a := hm.all 0 hm.r0; have b := hg'.all 0 hm.r0; omega⟩, fun A ca w HA => ⟨?_, ?_⟩⟩
    · have e := good_mat hg' hby
      have h1 := check_ok A ca ls.length n (matOf ls) w (by rw [← e]; exact HA) hg'.r0 hg'.r1 hg'.n0 hg'.n1
      exact h1
    · exact rcheck_ok A ca n ls w HA hg'
  · exact ⟨0, 0, 20, .inr rfl, fun h => absurd h hg, fun _ => rfl, fun n h => absurd ⟨n, h⟩ hg, fun A ca w HA => ⟨check_bad A ca ls w HA hg, rcheck_bad A ca ls w HA hg⟩⟩
set_option maxRecDepth 100000 in
set_option maxHeartbeats 1000000 in
theorem rmul_bad (A B : Option Addr) (ca cb : Nat) (ls ks : List (List Nat)) (w : World) (HA : Hid (InM w A ca ls)) (HB : Hid (InM w B cb ks)) (hg : ¬ ((∃ n, Good ls n) ∧ ∃ n, Good ks n)) :
    Calls Try.prog 27 #[.slice A ls.length ca, .slice B ks.length cb] w (RetNone 20 w) := by
  obtain ⟨x1, x2, x3, p1, p2, p3, -, hc1⟩ := rcheck_any ls HA.out.byt
  obtain ⟨y1, y2, y3, q1, q2, q3, -, hc2⟩ := rcheck_any ks HB.out.byt
  have hor : x3 = 20 ∨ (x3 = 0 ∧ y3 = 20) := by
    by_cases h1 : ∃ n, Good ls n
    · by_cases h2 : ∃ n, Good ks n
      · exact absurd ⟨h1, h2⟩ hg
      · exact .inr ⟨p2 h1, q3 h2⟩
    · exact .inl (p3 h1)
  have HC1 := Lib.hid (fun A ca w h => (hc1 A ca w h).2)
  have HC2 := Lib.hid (fun A ca w h => (hc2 A ca w h).2)
  obtain ⟨r, hr⟩ : ∃ r, ls.length = r := ⟨_, rfl⟩
  obtain ⟨q, hq⟩ : ∃ r, ks.length = r := ⟨_, rfl⟩
  rw [hr] at HC1 ⊢
  rw [hq] at HC2 ⊢
  clear hr hq hg p1 p2 p3 q1 q2 q3 hc1 hc2
  have tk1 : True := trivial
  rcases hor with rfl | ⟨rfl, rfl⟩
  · go_enter Try.func27, Try.ntmps27
    go_wp2_with (first
      | (go_at_call 26; have _t := tk1; refine (HC1.out _ _ _ HA).mono ?_; rintro e w1 ⟨rfl, hb⟩; have HB1 := Lib.hid hb; clear hb tk1 _t)
      | (go_at_call 26; refine (HC2.out _ _ _ (Lib.hid (HB.out.later HB1.out))).mono ?_; rintro e w2 ⟨rfl, hb⟩; have HB2 := Lib.hid (bel_trans HB1.out hb); clear hb))
    go_ret2
    exact ⟨rfl, HB2.out⟩
  · go_enter Try.func27, Try.ntmps27
    go_wp2_with (first
      | (go_at_call 26; have _t := tk1; refine (HC1.out _ _ _ HA).mono ?_; rintro e w1 ⟨rfl, hb⟩; have HB1 := Lib.hid hb; clear hb tk1 _t)
      | (go_at_call 26; refine (HC2.out _ _ _ (Lib.hid (HB.out.later HB1.out))).mono ?_; rintro e w2 ⟨rfl, hb⟩; have HB2 := Lib.hid (bel_trans HB1.out hb); clear hb))
    go_ret2
    exact ⟨rfl, HB2.out⟩
set_option maxRecDepth 100000 in
set_option maxHeartbeats 1000000 in
theorem rmul_differ (A B : Option Addr) (ca cb r n q m : Nat) (M K : Mat) (w : World) (HA : Hid (InM w A ca (lmat r n M))) (HB : Hid (InM w B cb (lmat q m K))) (r0 : 0 < r) (r1 : r ≤ 255) (n0 : 0 < n) (n1 : n ≤ 255) (q0 : 0 < q) (q1 : q ≤ 255) (m0 : 0 < m) (m1 : m ≤ 255) (hne : n ≠ q) :
    Calls Try.prog 27 #[.slice A r ca, .slice B q cb] w (RetNone 2 w) := by
  have e1 : ((n : Int) == (q : Int)) = false := by simp; omega
  have e2 : ((n : Int) != (q : Int)) = true := by simp; omega
  clear hne
  have HC1 := Lib.hid (rcheck_ok A ca n (lmat r n M) w HA (lmat_good M r0 r1 n0 n1))
  have HC2 := Lib.hid (fun w1 (h : Below w.heap.size w w1) => rcheck_ok B cb m (lmat q m K) w1 (Lib.hid (HB.out.later h)) (lmat_good K q0 q1 m0 m1))
  simp only [lmat_len] at HC1 HC2
  have tk1 : True := trivial
  go_enter Try.func27, Try.ntmps27
  go_wp2_with (first
    | (go_at_call 26; have _t := tk1; refine (HC1.out).mono ?_; rintro e w1 ⟨rfl, hb⟩; have HB1 := Lib.hid hb; clear hb tk1 _t)
    | (go_at_call 26; refine (HC2.out _ HB1.out).mono ?_; rintro e w2 ⟨rfl, hb⟩; have HB2 := Lib.hid (bel_trans HB1.out hb); clear hb))
  go_ret2
  exact ⟨rfl, HB2.out⟩
set_option maxRecDepth 100000 in
set_option maxHeartbeats 1000000 in
theorem rinvert_flat (A : Option Addr) (ca r n : Nat) (M : Mat) (w : World) (HA : Hid (InM w A ca (lmat r n M))) (r0 : 0 < r) (r1 : r ≤ 255) (n0 : 0 < n) (n1 : n ≤ 255) (hne : r ≠ n) :
    Calls Try.prog 28 #[.slice A r ca] w (RetNone 2 w) := by
  have e1 : ((r : Int) == (n : Int)) = false := by simp; omega
  have e2 : ((r : Int) != (n : Int)) = true := by simp; omega
  clear hne
  have HCK := Lib.hid (rcheck_ok A ca n (lmat r n M) w HA (lmat_good M r0 r1 n0 n1))
  simp only [lmat_len] at HCK
  go_enter Try.func28, Try.ntmps28
  go_wp2_with (go_at_call 26; refine (HCK.out).mono ?_; rintro e w1 ⟨rfl, hb⟩; have HB1 := Lib.hid hb; clear hb)
  go_ret2
  exact ⟨rfl, HB1.out⟩
set_option maxRecDepth 100000 in
set_option maxHeartbeats 1000000 in
theorem rapply_differ (A B : Option Addr) (ca cb r n m : Nat) (M : Mat) (w : World) (HA : Hid (InM w A ca (lmat r n M))) (r0 : 0 < r) (r1 : r ≤ 255) (n0 : 0 < n) (n1 : n ≤ 255) (hne : m ≠ n) :
    Calls Try.prog 30 #[.slice A r ca, .slice B m cb] w (RetNone 2 w) := by
  have e1 : ((m : Int) == (n : Int)) = false := by simp; omega
  have e2 : ((m : Int) != (n : Int)) = true := by simp; omega
  clear hne
  have HCK := Lib.hid (rcheck_ok A ca n (lmat r n M) w HA (lmat_good M r0 r1 n0 n1))
  simp only [lmat_len] at HCK
  go_enter Try.func30, Try.ntmps30
  go_wp2_with (go_at_call 26; refine (HCK.out).mono ?_; rintro e w1 ⟨rfl, hb⟩; have HB1 := Lib.hid hb; clear hb)
  go_ret2
  exact ⟨rfl, HB1.out⟩
end Go.Proofs.Ytebpaafofombaaa
