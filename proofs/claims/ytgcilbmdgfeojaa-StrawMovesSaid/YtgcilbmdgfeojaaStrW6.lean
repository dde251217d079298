/-
  The walk of the straws' heads.
-/
import Derived.Test.YtgcilbmdgfeojaaStrW5
namespace Go.Proofs.Ytgcilbmdgfeojaa
open Go.RowKit StrMath
set_option linter.unusedVariables false
theorem pick_heads : (pick [1, 2] [0, 5] 7 0 2).1 = 1 := by
  rw [pick_take [1, 2] [0, 5] 7 0 1 (by decide) (.inl (by rw [pick_skip [1, 2] [0, 5] 7 0 0 (by decide), pick_zero]; decide))]
  rfl
theorem ln_1 : ln 1 = 0 := by unfold ln; rw [if_neg (by omega)]; exact lnN_pow (k := 0) (by omega)
theorem ln_2 : ln 2 = 16777216 := by unfold ln; rw [if_neg (by omega)]; exact lnN_pow (k := 1) (by omega)
theorem ln_65536 : ln 65536 = 268435456 := by unfold ln; rw [if_neg (by omega)]; exact lnN_pow (k := 16) (by omega)
theorem cost_heads : cost 65535 1 = 0 := by
  unfold cost
  rw [if_neg (by omega), show ((65535 % 65536 : Nat) : Int) + 1 = 65536 from by decide, ln_65536]
  decide
theorem wf_small {x : Int} (h1 : -1000000000 ≤ x) (h2 : x ≤ 1000000000) : Lit.wf (.int .i64 x) := by
  simp only [Lit.wf, IntKind.min, IntKind.max, IntKind.signed, IntKind.bits]
  simp
  omega
theorem i64_lit {xs : List Int} (h : xs.all (fun x => decide (-1000000000 ≤ x) && decide (x ≤ 1000000000)) = true) : I64 xs := by
  intro x hx
  have := List.all_eq_true.1 h x hx
  simp at this
  omega
theorem reads_two (w : World) (t t' : TypeId) (a b : List Int) :
    Reads ((w.alloc (.cells (a.map iv).toArray t)).alloc (.cells (b.map iv).toArray t')) ((w.alloc (.cells (a.map iv).toArray t)).alloc (.cells (b.map iv).toArray t')).heap.size 1 (some ⟨w.heap.size, 0, none⟩) a.length (a.map iv) ∧
    Reads ((w.alloc (.cells (a.map iv).toArray t)).alloc (.cells (b.map iv).toArray t')) ((w.alloc (.cells (a.map iv).toArray t)).alloc (.cells (b.map iv).toArray t')).heap.size 1 (some ⟨w.heap.size + 1, 0, none⟩) b.length (b.map iv) := by
  have h1 := Reads.lit w t (a.map iv) 1 a.length (by simp)
  have h2 := Reads.lit (w.alloc (.cells (a.map iv).toArray t)) t' (b.map iv) 1 b.length (by simp)
  refine ⟨(h1.alloc (by simp) _).more (by simp), ?_⟩
  have e : (w.alloc (.cells (a.map iv).toArray t)).heap.size = w.heap.size + 1 := by simp
  rw [e] at h2
  exact h2.more (by simp)
set_option maxRecDepth 100000 in
set_option maxHeartbeats 1000000 in
theorem heads_any (w : World) : Calls Try.prog 12 #[] w fun e w' => e = .returned (.bool true) ∧ Below w.heap.size w w' := by
  have g1 := Lib.hid pick_heads
  have g2 := Lib.hid ln_1
  have g3 := Lib.hid ln_2
  have g4 := Lib.hid ln_65536
  have g5 := Lib.hid cost_heads
  go_enter Try.func12, Try.ntmps12
  go_wp2_with fail
  have hb1 : Below w.heap.size w ((w.alloc (.cells #[.int .i64 1, .int .i64 2] 3)).alloc (.cells #[.int .i64 0, .int .i64 5] 3)) := ((Below.refl _ _).alloc (Nat.le_refl _) _).alloc (by simp) _
  have r1 : Reads ((w.alloc (.cells #[.int .i64 1, .int .i64 2] 3)).alloc (.cells #[.int .i64 0, .int .i64 5] 3)) ((w.alloc (.cells #[.int .i64 1, .int .i64 2] 3)).alloc (.cells #[.int .i64 0, .int .i64 5] 3)).heap.size 1 (some ⟨w.heap.size, 0, none⟩) 2 ([1, 2].map iv) := (reads_two w 3 3 [1, 2] [0, 5]).1
  have r2 : Reads ((w.alloc (.cells #[.int .i64 1, .int .i64 2] 3)).alloc (.cells #[.int .i64 0, .int .i64 5] 3)) ((w.alloc (.cells #[.int .i64 1, .int .i64 2] 3)).alloc (.cells #[.int .i64 0, .int .i64 5] 3)).heap.size 1 (some ⟨w.heap.size + 1, 0, none⟩) 2 ([0, 5].map iv) := (reads_two w 3 3 [1, 2] [0, 5]).2
  generalize (w.alloc (.cells #[.int .i64 1, .int .i64 2] 3)).alloc (.cells #[.int .i64 0, .int .i64 5] 3) = w1 at hb1 r1 r2 ⊢
  refine (choose_any (some ⟨w.heap.size, 0, none⟩) (some ⟨w.heap.size + 1, 0, none⟩) 2 2 2 2 7 0 [1, 2] [0, 5] w1 (i64_lit (by decide)) (i64_lit (by decide)) r1 r2 (by decide) (by decide) (by decide) rfl).mono ?_
  rintro e w2 ⟨rfl, d, rfl⟩
  rw [g1.out]
  have hb2 : Below w.heap.size w (w1.drewN d) := bel_drewN hb1 d
  generalize w1.drewN d = w2 at hb2 ⊢
  clear r1 r2 hb1
  go_wp2_with fail
  refine (choose_any none none 0 0 0 0 7 0 [] [] w2 (i64_lit (by decide)) (i64_lit (by decide)) Reads.none_ Reads.none_ (by decide) (by decide) (by decide) rfl).mono ?_
  rintro e w3 ⟨rfl, d, rfl⟩
  rw [show (pick [] [] 7 0 0).1 = -1 from rfl]
  have hb3 : Below w.heap.size w (w2.drewN d) := bel_drewN hb2 d
  generalize w2.drewN d = w3 at hb3 ⊢
  clear hb2
  go_wp2_with fail
  have hb4 : Below w.heap.size w (w3.alloc (.cells #[.int .i64 1] 3)) := hb3.alloc hb3.size _
  refine (choose_bad none (some ⟨w3.heap.size, 0, none⟩) 0 1 0 1 7 0 _ (by decide) (by decide) (by decide)).mono ?_
  rintro e w' ⟨rfl, rfl⟩
  generalize w3.alloc (.cells #[.int .i64 1] 3) = w4 at hb4 ⊢
  clear hb3
  go_wp2_with fail
  refine (ln_any 1 w4 (wf_small (by decide) (by decide))).mono ?_
  rintro e w' ⟨rfl, rfl⟩
  rw [g2.out]
  go_wp2_with fail
  refine (ln_any 2 w4 (wf_small (by decide) (by decide))).mono ?_
  rintro e w' ⟨rfl, rfl⟩
  rw [g3.out]
  go_wp2_with fail
  refine (ln_any 65536 w4 (wf_small (by decide) (by decide))).mono ?_
  rintro e w' ⟨rfl, rfl⟩
  rw [g4.out]
  go_wp2_with fail
  refine (cost_any 65535 1 w4 (by decide) (wf_small (by decide) (by decide))).mono ?_
  rintro e w' ⟨rfl, rfl⟩
  rw [g5.out]
  go_wp2
  go_ret
  exact ⟨rfl, hb4⟩
end Go.Proofs.Ytgcilbmdgfeojaa
