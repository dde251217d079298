/-
  Nodes at every map; the walk of the heads.
-/
import Derived.Test.YtmdffmajnbokeaaPlW9
namespace Go.Proofs.Ytmdffmajnbokeaa
open Go.RowKit StrMath PlMath
set_option linter.unusedVariables false
theorem nodesR_map {ms : List Mem} (g t : Int) (h : chk ms = false) : nodesR ms g t = ([], 110) := by unfold nodesR; rw [if_pos h]
theorem nodesR_arg {ms : List Mem} {g t : Int} (h : chk ms = true) (h2 : g < 0 ∨ 64 ≤ g ∨ t < 1 ∨ 255 < t) : nodesR ms g t = ([], 2) := by unfold nodesR; rw [if_neg (by simp [h]), if_pos h2]
theorem nodesR_few {ms : List Mem} {g t : Nat} (h : chk ms = true) (h1 : g < 64) (h2 : 1 ≤ t) (h3 : t ≤ 255) (h4 : wts ms < t) : nodesR ms g t = ([], 111) := by
  unfold nodesR; rw [if_neg (by simp [h]), if_neg (by omega), if_pos (by omega)]
theorem nodesR_ok {ms : List Mem} {g t : Nat} (h : chk ms = true) (h1 : g < 64) (h2 : 1 ≤ t) (h3 : t ≤ 255) (h4 : t ≤ wts ms) : nodesR ms g t = (picks (cF g) ms t, 0) := by
  unfold nodesR; rw [if_neg (by simp [h]), if_neg (by omega), if_neg (by omega)]; rfl
theorem nodes_any (e : Nat) (A : Option Addr) (n cap : Nat) (ms : List Mem) (g t : Int) (w : World) (hr : Hid (Reads w w.heap.size 2 A n (mcells ms))) (h64 : M64 ms) (hc : n ≤ cap) (hm : cap ≤ maxLen) :
    Calls Try.prog 9 #[mapV e A n cap, .int .i64 g, .int .i64 t] w (RetI (nodesR ms g t) w) := by
  by_cases hk : chk ms = false
  · rw [nodesR_map g t hk]; exact nodes_map e A n cap ms g t w hr h64 hc hm hk
  · have hk : chk ms = true := by simpa using hk
    by_cases hb : g < 0 ∨ 64 ≤ g ∨ t < 1 ∨ 255 < t
    · rw [nodesR_arg hk hb]; exact nodes_arg e A n cap ms g t w hr h64 hc hm hk hb
    · obtain ⟨g, rfl⟩ := Int.eq_ofNat_of_zero_le (show 0 ≤ g by omega)
      obtain ⟨t, rfl⟩ := Int.eq_ofNat_of_zero_le (show 0 ≤ t by omega)
      by_cases hf : wts ms < t
      · rw [nodesR_few hk (by omega) (by omega) (by omega) hf]; exact nodes_few e A n cap ms g t w hr h64 hc hm hk (by omega) (by omega) (by omega) hf
      · rw [nodesR_ok hk (by omega) (by omega) (by omega) (by omega)]; exact nodes_ok e A n cap ms g t w hr h64 hc hm hk (by omega) (by omega) (by omega) (by omega)
theorem rnodes_any (e : Nat) (A : Option Addr) (n cap : Nat) (ms : List Mem) (g t : Int) (w : World) (hr : Hid (Reads w w.heap.size 2 A n (mcells ms))) (h64 : M64 ms) (hc : n ≤ cap) (hm : cap ≤ maxLen) :
    Calls Try.prog 10 #[mapV e A n cap, .int .i64 g, .int .i64 t] w (RetI (nodesR ms g t) w) := by
  by_cases hk : chk ms = false
  · rw [nodesR_map g t hk]; exact rnodes_map e A n cap ms g t w hr h64 hc hm hk
  · have hk : chk ms = true := by simpa using hk
    by_cases hb : g < 0 ∨ 64 ≤ g ∨ t < 1 ∨ 255 < t
    · rw [nodesR_arg hk hb]; exact rnodes_arg e A n cap ms g t w hr h64 hc hm hk hb
    · obtain ⟨g, rfl⟩ := Int.eq_ofNat_of_zero_le (show 0 ≤ g by omega)
      obtain ⟨t, rfl⟩ := Int.eq_ofNat_of_zero_le (show 0 ≤ t by omega)
      by_cases hf : wts ms < t
      · rw [nodesR_few hk (by omega) (by omega) (by omega) hf]; exact rnodes_few e A n cap ms g t w hr h64 hc hm hk (by omega) (by omega) (by omega) hf
      · rw [nodesR_ok hk (by omega) (by omega) (by omega) (by omega)]; exact rnodes_ok e A n cap ms g t w hr h64 hc hm hk (by omega) (by omega) (by omega) (by omega)
/-- Opened for a caller: the slice, what it reads as. -/
theorem RetI.open {r : List Int × Int} {w w' : World} {e : Ending} (h : RetI r w e w') :
    ∃ A n cap, e = .returned (.tuple #[.slice A n cap, .int .i64 r.2]) ∧ n = r.1.length ∧ Hid (Reads w' w'.heap.size 1 A n (r.1.map iv)) ∧ n ≤ cap ∧ cap ≤ maxLen ∧ Below w.heap.size w w' := by
  obtain ⟨v, rfl, ho, hb⟩ := h
  obtain ⟨A, cap, rfl, h1, h2⟩ := own_slice ho
  exact ⟨A, _, cap, rfl, rfl, Lib.hid (Reads.of_own ho), h1, h2, hb⟩
def ms3 : List Mem := [(1, 1), (2, 1), (3, 1)]
theorem ms3_64 : M64 ms3 := by
  intro x hx
  simp only [ms3, List.mem_cons, List.not_mem_nil, or_false] at hx
  rcases hx with rfl | rfl | rfl <;> decide
theorem ms3_3 : nodesR ms3 0 3 = ([1, 3, 2], 0) := by decide +kernel
theorem ms3_4 : nodesR ms3 0 4 = ([], 111) := by decide +kernel
/-- A map made by the call. -/
def RetM (e : Nat) (ms : List Mem) (w : World) (en : Ending) (w' : World) : Prop :=
  ∃ A n cap, en = .returned (mapV e A n cap) ∧ Hid (Reads w' w'.heap.size 2 A n (mcells ms)) ∧ n ≤ cap ∧ cap ≤ maxLen ∧ Below w.heap.size w w'
set_option maxRecDepth 100000 in
theorem three_any (w : World) : Calls Try.prog 30 #[] w (RetM 1 ms3 w) := by
  go_enter Try.func30, Try.ntmps30
  go_wp2
  refine bodyPost_ret (v := mapV 1 (some ⟨w.heap.size + 1, 0, none⟩) 3 3) (by simp [results, Try.results30, go_sem, mapV]) rfl ⟨_, _, _, rfl, Lib.hid ?_, Nat.le_refl _, by decide, ((Below.refl _ _).alloc (Nat.le_refl _) _).alloc (by simp) _⟩
  have h := Reads.lit (w.alloc (.cells #[.int .u64 1, .slice (some ⟨w.heap.size + 1, 0, none⟩) 3 3] 25)) 41 (mcells ms3) 2 3 rfl
  have e : (w.alloc (.cells #[.int .u64 1, .slice (some ⟨w.heap.size + 1, 0, none⟩) 3 3] 25)).heap.size = w.heap.size + 1 := by simp
  rw [e] at h
  exact h.more (by simp)
set_option maxRecDepth 100000 in
set_option maxHeartbeats 2000000 in
theorem heads_any (w : World) : Calls Try.prog 16 #[] w fun e w' => e = .returned (.bool true) ∧ Below w.heap.size w w' := by
  have g1 := Lib.hid ms3_3
  have g2 := Lib.hid ms3_4
  go_enter Try.func16, Try.ntmps16
  go_wp2_with fail
  refine (three_any w).mono ?_
  rintro e w1 ⟨A1, n1, c1, rfl, h1, hc1, hm1, hb1⟩
  go_wp2_with fail
  refine (nodes_any 1 A1 n1 c1 ms3 0 3 w1 h1 ms3_64 hc1 hm1).mono ?_
  rintro e w2 ⟨v, rfl, hv, hb⟩
  rw [g1.out] at hv ⊢
  obtain ⟨gv, cv, rfl, hlo, hhi⟩ := World.ownsRow.form hv (by decide)
  have R1 := Lib.hid (Reads.of_own hv)
  have hb2 : Below w.heap.size w w2 := hb1.trans (hb.mono hb1.size)
  clear hb hb1 hv h1
  go_wp2_with fail
  refine (three_any w2).mono ?_
  rintro e w3 ⟨A3, n3, c3, rfl, h3, hc3, hm3, hb⟩
  have R1 := Lib.hid (R1.out.later hb)
  have hb3 : Below w.heap.size w w3 := hb2.trans (hb.mono hb2.size)
  clear hb hb2
  go_wp2_with fail
  refine (nodes_any 1 A3 n3 c3 ms3 0 4 w3 h3 ms3_64 hc3 hm3).mono ?_
  rintro e w4 ⟨v4, rfl, hv4, hb⟩
  rw [g2.out]
  have R1 := Lib.hid (R1.out.later hb)
  have hb4 : Below w.heap.size w w4 := hb3.trans (hb.mono hb3.size)
  clear hb hb3 hv4 h3
  have hgr := fun s w hs => group_any s 1 w hs
  have hg0 : ∀ s, groupN s 1 = (0, 0) := fun s => by
    unfold groupN
    rw [if_neg (by omega), show (1 : Int).toNat = 1 from rfl, Nat.mod_one]
    rfl
  simp only [hg0] at hgr
  have HG := Lib.hid hgr
  clear hgr hg0
  go_wp2_with fail
  refine (HG.out _ w4 (by decide)).mono ?_
  rintro e w5 ⟨rfl, hb⟩
  have R1 := Lib.hid (R1.out.later hb)
  have hb5 : Below w.heap.size w w5 := hb4.trans (hb.mono hb4.size)
  clear hb hb4 HG
  have k0 : w5.cell? ⟨gv, 0, none⟩ = some (.int .i64 1) := (R1.out.2 (by decide)).elim fun ad h => by obtain ⟨e1, _, h⟩ := h; injection e1 with e1; subst e1; exact h 0 _ rfl
  have k1 : w5.cell? ⟨gv, 1, none⟩ = some (.int .i64 3) := (R1.out.2 (by decide)).elim fun ad h => by obtain ⟨e1, _, h⟩ := h; injection e1 with e1; subst e1; exact h 1 _ rfl
  have k2 : w5.cell? ⟨gv, 2, none⟩ = some (.int .i64 2) := (R1.out.2 (by decide)).elim fun ad h => by obtain ⟨e1, _, h⟩ := h; injection e1 with e1; subst e1; exact h 2 _ rfl
  go_wp2_with fail
  have hm2 : nMoves [1, 2] [1, 3, 4] = 2 := by decide
  have HM := Lib.hid hm2
  clear hm2
  go_region_held3 (fun w' => w'.cell? ⟨gv, 0, none⟩ = some (.int .i64 1) ∧ w'.cell? ⟨gv, 1, none⟩ = some (.int .i64 3) ∧ w'.cell? ⟨gv, 2, none⟩ = some (.int .i64 2)) (go_keep) (first
    | (go_at_call 14; refine Calls.mono (moves_ge _ _ 2 2 3 3 [1, 2] [1, 3, 4] _ (by first | exact (reads_two w5 3 3 [1, 2] [1, 3, 4]).1 | exact (reads_two w5 3 3 [1, 3, 4] [1, 2]).2) (by first | exact (reads_two w5 3 3 [1, 2] [1, 3, 4]).2 | exact (reads_two w5 3 3 [1, 3, 4] [1, 2]).1) (by decide) (by decide)) ?_; rintro e w' ⟨rfl, rfl⟩; rw [HM.out]))
  all_goals
    go_wp2
    go_ret
    exact ⟨rfl, ((hb5.drew).alloc hb5.size _).alloc (by simp; exact Nat.le_succ_of_le hb5.size) _⟩
end Go.Proofs.Ytmdffmajnbokeaa
