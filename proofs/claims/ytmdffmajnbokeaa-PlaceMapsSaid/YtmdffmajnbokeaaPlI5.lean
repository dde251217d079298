/-
  With of both, whatever comes in. (printed by gen_pli5.py)
-/
import Derived.Test.YtmdffmajnbokeaaPlI4
namespace Go.Proofs.Ytmdffmajnbokeaa
open Go.RowKit StrMath PlMath
set_option linter.unusedVariables false
set_option maxRecDepth 100000 in
set_option maxHeartbeats 4000000 in
theorem with_map (e : Nat) (A : Option Addr) (n cap : Nat) (ms : List Mem) (id wt : Int) (w : World) (hr : Hid (Reads w w.heap.size 2 A n (mcells ms))) (h64 : M64 ms) (hc : n ≤ cap) (hm : cap ≤ maxLen) (hk : chk ms = false) :
    Calls Try.prog 18 #[mapV e A n cap, .int .i64 id, .int .i64 wt] w (RetME 0 [] 110 w) := by
  have H := Lib.hid (fun W h => check_any e A n cap ms W h h64 hc hm)
  have E0 : Hid (errM (chk ms) = 110) := Lib.hid (by rw [hk]; rfl)
  clear hk h64
  unfold maxLen at hm
  unfold mapV at H ⊢
  go_enter Try.func18, Try.ntmps18
  go_wp2_with fail
  have hB := Box3.new w #[.int .u64 (e : Int), .slice A n cap] id
  revert hB
  generalize ((w.alloc (.cells #[.int .u64 (e : Int), .slice A n cap] 25)).alloc (.cells #[.int .i64 id] 3)).alloc (.cells #[.int .u64 0, .slice none 0 0] 25) = w1
  intro hB
  have HB := Lib.hid hB
  clear hB
  refine (H.out w1 ((hr.out.below HB.out.bel).more HB.out.bel.size)).mono ?_
  rintro e2 w2 ⟨rfl, hb⟩
  have HB := Lib.hid (HB.out.below hb)
  rw [E0.out]
  have x2 := HB.out.b1.cell 0
  have r0 := HB.out.b2.cell 0
  have r1 := HB.out.b2.cell 1
  have f0 := HB.out.b2.frozen 0
  have f1 := HB.out.b2.frozen 1
  clear hb H
  go_wp2
  have hW : Hid (Below w.heap.size w ((w2.setCell ⟨w.heap.size + 1 + 1, 0, none⟩ (.int .u64 0)).setCell ⟨w.heap.size + 1 + 1, 1, none⟩ (.slice none 0 0))) :=
    Lib.hid ((HB.out.bel.setCell (p := ⟨w.heap.size + 1 + 1, 0, none⟩) (by show _ ≤ w.heap.size + 1 + 1; omega) _).setCell (p := ⟨w.heap.size + 1 + 1, 1, none⟩) (by show _ ≤ w.heap.size + 1 + 1; omega) _)
  refine bodyPost_ret (v := .tuple #[mapV 0 none 0 0, .int .i64 110]) (by simp [results, Try.results18, go_sem, mapV, r0, r1]) rfl ⟨none, 0, 0, rfl, Lib.hid ⟨rfl, fun h => absurd h (by omega)⟩, Nat.le_refl _, by unfold maxLen; omega, hW.out⟩
set_option maxRecDepth 100000 in
set_option maxHeartbeats 4000000 in
theorem with_arg (e : Nat) (A : Option Addr) (n cap : Nat) (ms : List Mem) (id wt : Int) (w : World) (hr : Hid (Reads w w.heap.size 2 A n (mcells ms))) (h64 : M64 ms) (hc : n ≤ cap) (hm : cap ≤ maxLen) (hk : chk ms = true) (hbad : id < 1 ∨ 32 < id ∨ wt < 0 ∨ 65535 < wt) :
    Calls Try.prog 18 #[mapV e A n cap, .int .i64 id, .int .i64 wt] w (RetME 0 [] 2 w) := by
  have H := Lib.hid (fun W h => check_any e A n cap ms W h h64 hc hm)
  have E0 : Hid (errM (chk ms) = 0) := Lib.hid (by rw [hk]; rfl)
  have aux : decide (id < 1) = true ∨ (decide (id < 1) = false ∧ decide (32 < id) = true) ∨ (decide (id < 1) = false ∧ decide (32 < id) = false ∧ decide (wt < 0) = true) ∨ (decide (id < 1) = false ∧ decide (32 < id) = false ∧ decide (wt < 0) = false ∧ decide (65535 < wt) = true) := by
    simp only [decide_eq_true_eq, decide_eq_false_iff_not]; omega
  clear hbad
  clear hk h64
  unfold maxLen at hm
  unfold mapV at H ⊢
  rcases aux with d1 | ⟨d1, d2⟩ | ⟨d1, d2, d3⟩ | ⟨d1, d2, d3, d4⟩
  all_goals
    go_enter Try.func18, Try.ntmps18
    go_wp2_with fail
    have hB := Box3.new w #[.int .u64 (e : Int), .slice A n cap] id
    revert hB
    generalize ((w.alloc (.cells #[.int .u64 (e : Int), .slice A n cap] 25)).alloc (.cells #[.int .i64 id] 3)).alloc (.cells #[.int .u64 0, .slice none 0 0] 25) = w1
    intro hB
    have HB := Lib.hid hB
    clear hB
    refine (H.out w1 ((hr.out.below HB.out.bel).more HB.out.bel.size)).mono ?_
    rintro e2 w2 ⟨rfl, hb⟩
    have HB := Lib.hid (HB.out.below hb)
    rw [E0.out]
    have x2 := HB.out.b1.cell 0
    have r0 := HB.out.b2.cell 0
    have r1 := HB.out.b2.cell 1
    have f0 := HB.out.b2.frozen 0
    have f1 := HB.out.b2.frozen 1
    clear hb H
    go_wp2
    have hW : Hid (Below w.heap.size w ((w2.setCell ⟨w.heap.size + 1 + 1, 0, none⟩ (.int .u64 0)).setCell ⟨w.heap.size + 1 + 1, 1, none⟩ (.slice none 0 0))) :=
      Lib.hid ((HB.out.bel.setCell (p := ⟨w.heap.size + 1 + 1, 0, none⟩) (by show _ ≤ w.heap.size + 1 + 1; omega) _).setCell (p := ⟨w.heap.size + 1 + 1, 1, none⟩) (by show _ ≤ w.heap.size + 1 + 1; omega) _)
    refine bodyPost_ret (v := .tuple #[mapV 0 none 0 0, .int .i64 2]) (by simp [results, Try.results18, go_sem, mapV, r0, r1]) rfl ⟨none, 0, 0, rfl, Lib.hid ⟨rfl, fun h => absurd h (by omega)⟩, Nat.le_refl _, by unfold maxLen; omega, hW.out⟩
set_option maxRecDepth 100000 in
set_option maxHeartbeats 4000000 in
theorem rwith_map (e : Nat) (A : Option Addr) (n cap : Nat) (ms : List Mem) (id wt : Int) (w : World) (hr : Hid (Reads w w.heap.size 2 A n (mcells ms))) (h64 : M64 ms) (hc : n ≤ cap) (hm : cap ≤ maxLen) (hk : chk ms = false) :
    Calls Try.prog 20 #[mapV e A n cap, .int .i64 id, .int .i64 wt] w (RetME 0 [] 110 w) := by
  have H := Lib.hid (fun W h => rcheck_any e A n cap ms W h h64 hc hm)
  have E0 : Hid (errM (chk ms) = 110) := Lib.hid (by rw [hk]; rfl)
  clear hk h64
  unfold maxLen at hm
  unfold mapV at H ⊢
  go_enter Try.func20, Try.ntmps20
  go_wp2_with fail
  have hB := Box2.new w #[.int .u64 (e : Int), .slice A n cap]
  revert hB
  generalize (w.alloc (.cells #[.int .u64 (e : Int), .slice A n cap] 25)).alloc (.cells #[.int .u64 0, .slice none 0 0] 25) = w1
  intro hB
  have HB := Lib.hid hB
  clear hB
  refine (H.out w1 ((hr.out.below HB.out.bel).more HB.out.bel.size)).mono ?_
  rintro e2 w2 ⟨rfl, hb⟩
  have HB := Lib.hid (HB.out.below hb)
  rw [E0.out]
  have r0 := HB.out.b1.cell 0
  have r1 := HB.out.b1.cell 1
  have f0 := HB.out.b1.frozen 0
  have f1 := HB.out.b1.frozen 1
  clear hb H
  go_wp2
  have hW : Hid (Below w.heap.size w ((w2.setCell ⟨w.heap.size + 1, 0, none⟩ (.int .u64 0)).setCell ⟨w.heap.size + 1, 1, none⟩ (.slice none 0 0))) :=
    Lib.hid ((HB.out.bel.setCell (p := ⟨w.heap.size + 1, 0, none⟩) (by show _ ≤ w.heap.size + 1; omega) _).setCell (p := ⟨w.heap.size + 1, 1, none⟩) (by show _ ≤ w.heap.size + 1; omega) _)
  refine bodyPost_ret (v := .tuple #[mapV 0 none 0 0, .int .i64 110]) (by simp [results, Try.results20, go_sem, mapV, r0, r1]) rfl ⟨none, 0, 0, rfl, Lib.hid ⟨rfl, fun h => absurd h (by omega)⟩, Nat.le_refl _, by unfold maxLen; omega, hW.out⟩
set_option maxRecDepth 100000 in
set_option maxHeartbeats 4000000 in
theorem rwith_arg (e : Nat) (A : Option Addr) (n cap : Nat) (ms : List Mem) (id wt : Int) (w : World) (hr : Hid (Reads w w.heap.size 2 A n (mcells ms))) (h64 : M64 ms) (hc : n ≤ cap) (hm : cap ≤ maxLen) (hk : chk ms = true) (hbad : id < 1 ∨ 32 < id ∨ wt < 0 ∨ 65535 < wt) :
    Calls Try.prog 20 #[mapV e A n cap, .int .i64 id, .int .i64 wt] w (RetME 0 [] 2 w) := by
  have H := Lib.hid (fun W h => rcheck_any e A n cap ms W h h64 hc hm)
  have E0 : Hid (errM (chk ms) = 0) := Lib.hid (by rw [hk]; rfl)
  have aux : decide (id < 1) = true ∨ (decide (id < 1) = false ∧ decide (32 < id) = true) ∨ (decide (id < 1) = false ∧ decide (32 < id) = false ∧ decide (wt < 0) = true) ∨ (decide (id < 1) = false ∧ decide (32 < id) = false ∧ decide (wt < 0) = false ∧ decide (65535 < wt) = true) := by
    simp only [decide_eq_true_eq, decide_eq_false_iff_not]; omega
  clear hbad
  clear hk h64
  unfold maxLen at hm
  unfold mapV at H ⊢
  rcases aux with d1 | ⟨d1, d2⟩ | ⟨d1, d2, d3⟩ | ⟨d1, d2, d3, d4⟩
  all_goals
    go_enter Try.func20, Try.ntmps20
    go_wp2_with fail
    have hB := Box2.new w #[.int .u64 (e : Int), .slice A n cap]
    revert hB
    generalize (w.alloc (.cells #[.int .u64 (e : Int), .slice A n cap] 25)).alloc (.cells #[.int .u64 0, .slice none 0 0] 25) = w1
    intro hB
    have HB := Lib.hid hB
    clear hB
    refine (H.out w1 ((hr.out.below HB.out.bel).more HB.out.bel.size)).mono ?_
    rintro e2 w2 ⟨rfl, hb⟩
    have HB := Lib.hid (HB.out.below hb)
    rw [E0.out]
    have r0 := HB.out.b1.cell 0
    have r1 := HB.out.b1.cell 1
    have f0 := HB.out.b1.frozen 0
    have f1 := HB.out.b1.frozen 1
    clear hb H
    go_wp2
    have hW : Hid (Below w.heap.size w ((w2.setCell ⟨w.heap.size + 1, 0, none⟩ (.int .u64 0)).setCell ⟨w.heap.size + 1, 1, none⟩ (.slice none 0 0))) :=
      Lib.hid ((HB.out.bel.setCell (p := ⟨w.heap.size + 1, 0, none⟩) (by show _ ≤ w.heap.size + 1; omega) _).setCell (p := ⟨w.heap.size + 1, 1, none⟩) (by show _ ≤ w.heap.size + 1; omega) _)
    refine bodyPost_ret (v := .tuple #[mapV 0 none 0 0, .int .i64 2]) (by simp [results, Try.results20, go_sem, mapV, r0, r1]) rfl ⟨none, 0, 0, rfl, Lib.hid ⟨rfl, fun h => absurd h (by omega)⟩, Nat.le_refl _, by unfold maxLen; omega, hW.out⟩
/-- What With gives: the epoch, the row, the error. -/
def wRes (e : Nat) (ms : List Mem) (id wt : Int) : Nat × List Mem × Int :=
  if chk ms = false then (0, [], 110) else if id < 1 ∨ 32 < id ∨ wt < 0 ∨ 65535 < wt then (0, [], 2) else ((e + 1) % 18446744073709551616, withR ms id wt, 0)
theorem with_any (e : Nat) (A : Option Addr) (n cap : Nat) (ms : List Mem) (id wt : Int) (w : World) (he : e < 18446744073709551616) (hr : Hid (Reads w w.heap.size 2 A n (mcells ms))) (h64 : M64 ms) (hc : n ≤ cap) (hm : cap ≤ maxLen) :
    Calls Try.prog 18 #[mapV e A n cap, .int .i64 id, .int .i64 wt] w (RetME (wRes e ms id wt).1 (wRes e ms id wt).2.1 (wRes e ms id wt).2.2 w) := by
  have hl : ms.length = n := by have := hr.out.1; rw [mcells_len] at this; omega
  unfold wRes
  cases hk : chk ms with
  | false => rw [if_pos rfl]; exact with_map e A n cap ms id wt w hr h64 hc hm hk
  | true =>
    rw [if_neg (by decide)]
    by_cases hb : id < 1 ∨ 32 < id ∨ wt < 0 ∨ 65535 < wt
    · rw [if_pos hb]; exact with_arg e A n cap ms id wt w hr h64 hc hm hk hb
    · rw [if_neg hb]
      have hU := (chk_up hk).1
      by_cases hkn : lessN ms id < n ∧ (ms.getD (lessN ms id) (0, 0)).1 = id
      · have h := with_set e A n cap ms id wt w (lessN ms id) he hr h64 hc hm hk hkn.1 hkn.2 (by omega) (by omega)
        rwa [withR_there hU wt (by omega) hkn.2] at h
      · have h := with_ins e A n cap ms id wt w (lessN ms id) he hr h64 hc hm hk rfl (fun h1 h2 => hkn ⟨h1, h2⟩) (by omega) (by omega) (by omega) (by omega)
        rwa [withR_new hU wt rfl (fun h1 h2 => hkn ⟨by omega, h2⟩)] at h
theorem rwith_any (e : Nat) (A : Option Addr) (n cap : Nat) (ms : List Mem) (id wt : Int) (w : World) (he : e < 18446744073709551616) (hr : Hid (Reads w w.heap.size 2 A n (mcells ms))) (h64 : M64 ms) (hc : n ≤ cap) (hm : cap ≤ maxLen) :
    Calls Try.prog 20 #[mapV e A n cap, .int .i64 id, .int .i64 wt] w (RetME (wRes e ms id wt).1 (wRes e ms id wt).2.1 (wRes e ms id wt).2.2 w) := by
  unfold wRes
  cases hk : chk ms with
  | false => rw [if_pos rfl]; exact rwith_map e A n cap ms id wt w hr h64 hc hm hk
  | true =>
    rw [if_neg (by decide)]
    by_cases hb : id < 1 ∨ 32 < id ∨ wt < 0 ∨ 65535 < wt
    · rw [if_pos hb]; exact rwith_arg e A n cap ms id wt w hr h64 hc hm hk hb
    · rw [if_neg hb]
      exact rwith_ok e A n cap ms id wt w he hr h64 hc hm hk (by omega) (by omega) (by omega) (by omega)
end Go.Proofs.Ytmdffmajnbokeaa
