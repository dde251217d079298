/-
  The walk of With where the member is not there.
-/
import Derived.Test.YtmdffmajnbokeaaPlI1
namespace Go.Proofs.Ytmdffmajnbokeaa
open Go.RowKit StrMath PlMath
set_option linter.unusedVariables false
section
variable (e : Nat) (A : Option Addr) (n cap : Nat) (ms : List Mem) (id wt : Int) (w : World)
set_option maxRecDepth 100000 in
set_option maxHeartbeats 4000000 in
theorem with_ins (k : Nat) (he : e < 18446744073709551616) (hr : Hid (Reads w w.heap.size 2 A n (mcells ms))) (h64 : M64 ms) (hc : n ≤ cap) (hm : cap ≤ maxLen) (hk : chk ms = true) (hkl : lessN ms id = k) (hid : k < n → (ms.getD k (0, 0)).1 ≠ id) (hid0 : 1 ≤ id) (hid1 : id ≤ 32) (hw0 : 0 ≤ wt) (hw1 : wt ≤ 65535) :
    Calls Try.prog 18 #[mapV e A n cap, .int .i64 id, .int .i64 wt] w (RetME ((e + 1) % 18446744073709551616) (insM ms k (id, wt)) 0 w) := by
  have H := Lib.hid (fun W h => check_any e A n cap ms W h h64 hc hm)
  have HW := Lib.hid (fun b W h h1 h2 => count_less b id e A n cap ms W h hc hm h1 h2)
  have E0 : Hid (errM (chk ms) = 0) := Lib.hid (by rw [hk]; rfl)
  obtain ⟨hU, hn32⟩ := chk_up hk
  have hl : ms.length = n := by have := hr.out.1; rw [mcells_len] at this; omega
  rw [hl] at hn32
  have HCL := Lib.hid (fun W h => clone_any A n cap ms W h (by omega))
  have hkn : k ≤ n := by rw [← hkl, ← hl]; exact lessN_le ms id
  have E1 : Hid (lessN ms id = k) := Lib.hid hkl
  have d1 : decide (id < 1) = false := decide_eq_false (by omega)
  have d2 : decide (32 < id) = false := decide_eq_false (by omega)
  have d3 : decide (wt < 0) = false := decide_eq_false (by omega)
  have d4 : decide (65535 < wt) = false := decide_eq_false (by omega)
  have HL := Lib.hid hl
  have HD := Lib.hid hid
  clear hU hl hid hk h64 hkl
  unfold maxLen at hm
  unfold mapV at H HW ⊢
  go_enter Try.func18, Try.ntmps18
  go_wp2_with fail
  have hB := Box3.new w #[.int .u64 (e : Int), .slice A n cap] id
  revert hB
  generalize ((w.alloc (.cells #[.int .u64 (e : Int), .slice A n cap] 25)).alloc (.cells #[.int .i64 id] 3)).alloc (.cells #[.int .u64 0, .slice none 0 0] 25) = w1
  intro hB
  have HB := Lib.hid hB
  clear hB
  refine (H.out w1 ((hr.out.below HB.out.bel).more HB.out.bel.size)).mono ?_
  rintro e' w2 ⟨rfl, hb⟩
  have HB := Lib.hid (HB.out.below hb)
  rw [E0.out]
  have x0 := HB.out.b0.cell 0
  have x1 := HB.out.b0.cell 1
  have x2 := HB.out.b1.cell 0
  clear hb
  go_wp2_with fail
  clear x0 x1
  refine (HW.out (w.heap.size + 1) w2 ((hr.out.below HB.out.bel).more HB.out.bel.size) x2 HB.out.b1.lt).mono ?_
  rintro e' w3 ⟨rfl, hb⟩
  have HB := Lib.hid (HB.out.below hb)
  rw [E1.out]
  clear x2 hb
  have x1 := HB.out.b0.cell 1
  go_wp2_with fail
  clear x1
  refine (HCL.out w3 (Lib.hid ((hr.out.below HB.out.bel).more HB.out.bel.size))).mono ?_
  rintro e' w4 ⟨v4, rfl, ho, hb⟩
  have HB3 := HB
  have HB := Lib.hid (HB.out.below hb)
  rw [HL.out] at ho
  obtain ⟨A4, c4, rfl, hc4, hc5⟩ := own_slice ho
  have x2 := HB.out.b1.cell 0
  have HOwn := Lib.hid ho
  have HB34 := Lib.hid hb
  clear hb H HW HCL
  by_cases hlt : k < n
  · have dk : decide (k < n) = true := decide_eq_true hlt
    obtain ⟨g, c4', ev, hlo, hhi⟩ := World.ownsRow.form ho (by omega)
    injection ev with ev1 ev2 ev3
    subst ev1
    subst ev3
    have hgk := mcells_get ms k (by have := HL.out; omega)
    have hidk := HD.out hlt
    have y0 : w4.cell? ⟨g, k * 2, none⟩ = some (.int .i64 (ms.getD k (0, 0)).1) := by rw [ho.cellAt (k * 2) (by omega)]; exact hgk.1
    have hbq : ((ms.getD k (0, 0)).1 == id) = false := beq_false_of_ne hidk
    generalize (ms.getD k (0, 0)).1 = oid at *
    clear ho hgk hidk hhi
    go_wp2
    go_quiet (fail)
    have HOwn5 : Hid ((w4.drewN nq).ownsRow w3.heap.size 41 2 (.slice (some ⟨g, 0, none⟩) n c4) n (mcells ms)) := HOwn
    have HB5 : Hid (Below w3.heap.size w3 (w4.drewN nq)) := Lib.hid (bel_drewN HB34.out nq)
    have x2 := (HB.out.below (bel_drewN (Below.refl _ _) nq)).b1.cell 0
    clear HOwn HB34 HB y0 hbq
    generalize w4.drewN nq = w5 at *
    obtain ⟨w6, ew6⟩ : ∃ w6, w5.alloc (.cells #[.int .i64 id, .int .i64 wt] 41) = w6 := ⟨_, rfl⟩
    have HNE := Lib.hid (show (Value.slice (some ⟨g, 0, none⟩) n c4).ownBlock ≠ some w5.heap.size from fun h => by have := (HOwn5.out.lt _ h).2; omega)
    have HI := Lib.hid (insert_any w3.heap.size (.slice (some ⟨g, 0, none⟩) n c4) n ms k w5.heap.size id wt w3 w6 (Lib.hid (by rw [← ew6]; exact HOwn5.out.alloc _)) (Lib.hid (by rw [← ew6]; exact HB5.out.alloc HB5.out.size _)) (by rw [← ew6]; have := HB5.out.size; simp; omega) (Lib.hid (by rw [← ew6]; exact Blk.new w5 _ _)) HNE.out HL hkn (by omega))
    unfold InsC at HI
    go_wp2_with fail
    refine HI.out.mono ?_
    rintro e' w7 ⟨v7, rfl, HO7, hb7⟩
    obtain ⟨A7, c7, rfl, q1, q2⟩ := own_slice HO7.out
    have HB7 := Lib.hid (HB3.out.below hb7)
    have HQ := Lib.hid (And.intro q1 q2)
    have HFAR := Lib.hid (show (Value.slice A7 (n + 1) c7).ownBlock ≠ some (w.heap.size + 1 + 1) from fun h => by have h1 := (HO7.out.lt _ h).1; have h2 := HB3.out.b2.lt; omega)
    clear x2 ew6 HI hb7 q1 q2
    have x0 := HB7.out.b0.cell 0
    have x3 := HB7.out.b2.cell 0
    have x4 := HB7.out.b2.cell 1
    have f3 := HB7.out.b2.frozen 0
    have f4 := HB7.out.b2.frozen 1
    obtain ⟨e', ee⟩ : ∃ e', (e + 1) % 18446744073709551616 = e' := ⟨_, rfl⟩
    have he1 : IntKind.u64.wrap ((e : Int) + 1) = (e' : Int) := by rw [IntKind.wrap_u64]; omega
    have EE := Lib.hid ee
    clear ee
    go_wp2
    rw [EE.out]
    have hW : Hid (Below w.heap.size w ((w7.setCell ⟨w.heap.size + 1 + 1, 0, none⟩ (.int .u64 (e' : Int))).setCell ⟨w.heap.size + 1 + 1, 1, none⟩ (.slice A7 (n + 1) c7))) :=
      Lib.hid ((HB7.out.bel.setCell (p := ⟨w.heap.size + 1 + 1, 0, none⟩) (by show _ ≤ _ + 1 + 1; omega) _).setCell (p := ⟨w.heap.size + 1 + 1, 1, none⟩) (by show _ ≤ _ + 1 + 1; omega) _)
    have HR := Lib.hid (Reads.of_own (own_far (p := ⟨w.heap.size + 1 + 1, 1, none⟩) (own_far (p := ⟨w.heap.size + 1 + 1, 0, none⟩) HO7.out HFAR.out (.int .u64 (e' : Int))) HFAR.out (.slice A7 (n + 1) c7)))
    refine bodyPost_ret (v := .tuple #[mapV e' A7 (n + 1) c7, .int .i64 0]) (by simp [results, Try.results18, go_sem, mapV, x3, x4]) rfl ⟨_, _, _, rfl, HR, HQ.out.1, HQ.out.2, hW.out⟩
  · have dk : decide (k < n) = false := decide_eq_false hlt
    clear ho
    go_wp2
    go_quiet (fail)
    have HOwn5 : Hid ((w4.drewN nq).ownsRow w3.heap.size 41 2 (.slice A4 n c4) n (mcells ms)) := HOwn
    have HB5 : Hid (Below w3.heap.size w3 (w4.drewN nq)) := Lib.hid (bel_drewN HB34.out nq)
    have x2 := (HB.out.below (bel_drewN (Below.refl _ _) nq)).b1.cell 0
    clear HOwn HB34 HB
    generalize w4.drewN nq = w5 at *
    obtain ⟨w6, ew6⟩ : ∃ w6, w5.alloc (.cells #[.int .i64 id, .int .i64 wt] 41) = w6 := ⟨_, rfl⟩
    have HNE := Lib.hid (show (Value.slice A4 n c4).ownBlock ≠ some w5.heap.size from fun h => by have := (HOwn5.out.lt _ h).2; omega)
    have HI := Lib.hid (insert_any w3.heap.size (.slice A4 n c4) n ms k w5.heap.size id wt w3 w6 (Lib.hid (by rw [← ew6]; exact HOwn5.out.alloc _)) (Lib.hid (by rw [← ew6]; exact HB5.out.alloc HB5.out.size _)) (by rw [← ew6]; have := HB5.out.size; simp; omega) (Lib.hid (by rw [← ew6]; exact Blk.new w5 _ _)) HNE.out HL hkn (by omega))
    unfold InsC at HI
    go_wp2_with fail
    refine HI.out.mono ?_
    rintro e' w7 ⟨v7, rfl, HO7, hb7⟩
    obtain ⟨A7, c7, rfl, q1, q2⟩ := own_slice HO7.out
    have HB7 := Lib.hid (HB3.out.below hb7)
    have HQ := Lib.hid (And.intro q1 q2)
    have HFAR := Lib.hid (show (Value.slice A7 (n + 1) c7).ownBlock ≠ some (w.heap.size + 1 + 1) from fun h => by have h1 := (HO7.out.lt _ h).1; have h2 := HB3.out.b2.lt; omega)
    clear x2 ew6 HI hb7 q1 q2
    have x0 := HB7.out.b0.cell 0
    have x3 := HB7.out.b2.cell 0
    have x4 := HB7.out.b2.cell 1
    have f3 := HB7.out.b2.frozen 0
    have f4 := HB7.out.b2.frozen 1
    obtain ⟨e', ee⟩ : ∃ e', (e + 1) % 18446744073709551616 = e' := ⟨_, rfl⟩
    have he1 : IntKind.u64.wrap ((e : Int) + 1) = (e' : Int) := by rw [IntKind.wrap_u64]; omega
    have EE := Lib.hid ee
    clear ee
    go_wp2
    rw [EE.out]
    have hW : Hid (Below w.heap.size w ((w7.setCell ⟨w.heap.size + 1 + 1, 0, none⟩ (.int .u64 (e' : Int))).setCell ⟨w.heap.size + 1 + 1, 1, none⟩ (.slice A7 (n + 1) c7))) :=
      Lib.hid ((HB7.out.bel.setCell (p := ⟨w.heap.size + 1 + 1, 0, none⟩) (by show _ ≤ _ + 1 + 1; omega) _).setCell (p := ⟨w.heap.size + 1 + 1, 1, none⟩) (by show _ ≤ _ + 1 + 1; omega) _)
    have HR := Lib.hid (Reads.of_own (own_far (p := ⟨w.heap.size + 1 + 1, 1, none⟩) (own_far (p := ⟨w.heap.size + 1 + 1, 0, none⟩) HO7.out HFAR.out (.int .u64 (e' : Int))) HFAR.out (.slice A7 (n + 1) c7)))
    refine bodyPost_ret (v := .tuple #[mapV e' A7 (n + 1) c7, .int .i64 0]) (by simp [results, Try.results18, go_sem, mapV, x3, x4]) rfl ⟨_, _, _, rfl, HR, HQ.out.1, HQ.out.2, hW.out⟩
end
end Go.Proofs.Ytmdffmajnbokeaa
