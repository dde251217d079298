/-
  The walk of With where the member is there.
-/
import Derived.Test.YtmdffmajnbokeaaPlW11
namespace Go.Proofs.Ytmdffmajnbokeaa
open Go.RowKit StrMath PlMath
set_option linter.unusedVariables false
/-- A map made by the call, and an error. -/
def RetME (e : Nat) (ms : List Mem) (er : Int) (w : World) (en : Ending) (w' : World) : Prop :=
  ∃ A n cap, en = .returned (.tuple #[mapV e A n cap, .int .i64 er]) ∧ Hid (Reads w' w'.heap.size 2 A n (mcells ms)) ∧ n ≤ cap ∧ cap ≤ maxLen ∧ Below w.heap.size w w'
theorem mcells_set_list (ms : List Mem) : ∀ (k : Nat) (x : Mem), k < ms.length → (ms.getD k (0, 0)).1 = x.1 → (mcells ms).set (k * 2 + 1) (iv x.2) = mcells (ms.set k x) := by
  unfold mcells
  induction ms with
  | nil => intro k x h; simp at h
  | cons a l ih =>
    intro k x h he
    cases k with
    | zero =>
      have he : a.1 = x.1 := he
      rw [List.flatMap_cons, List.set_cons_zero, List.flatMap_cons]
      show iv a.1 :: iv x.2 :: l.flatMap _ = iv x.1 :: iv x.2 :: l.flatMap _
      rw [he]
    | succ k =>
      rw [List.flatMap_cons, List.set_cons_succ, List.flatMap_cons, ← ih k x (by simpa using h) (by simpa using he)]
      rw [show (k + 1) * 2 + 1 = k * 2 + 1 + 2 from by omega]
      rfl
theorem set_put {ms : List Mem} (hU : Up ms) (k : Nat) (hk : k < ms.length) (w : Int) : ms.set k ((ms.getD k (0, 0)).1, w) = ms.map (put (ms.getD k (0, 0)).1 w) := by
  have hp := List.pairwise_iff_getElem.1 hU.1
  have eg : ms.getD k (0, 0) = ms[k] := by rw [List.getD_eq_getElem?_getD, List.getElem?_eq_getElem hk]; rfl
  rw [eg]
  apply List.ext_getElem (by simp)
  intro j h1 h2
  rw [List.getElem_set, List.getElem_map]
  rw [List.length_set] at h1
  unfold put
  by_cases e : k = j
  · subst e; rw [if_pos rfl, if_pos rfl]
  · rw [if_neg e, if_neg]
    rcases Nat.lt_or_ge j k with h | h
    · have := hp j k h1 hk h; omega
    · have := hp k j hk h1 (by omega); omega
theorem mcells_put {ms : List Mem} (hU : Up ms) {k : Nat} (hk : k < ms.length) {id : Int} (hid : (ms.getD k (0, 0)).1 = id) (w : Int) : (mcells ms).set (k * 2 + 1) (iv w) = mcells (ms.map (put id w)) := by
  subst hid
  rw [← set_put hU k hk w]
  exact mcells_set_list ms k (_, w) hk rfl
theorem own_far {w : World} {base size n : Nat} {t : TypeId} {v : Value} {xs : List Value} {p : Addr} (h : w.ownsRow base t size v n xs) (hne : v.ownBlock ≠ some p.block) (u : Value) : (w.setCell p u).ownsRow base t size v n xs :=
  h.kept (row := some p.block) ⟨rfl, rfl, rfl, by simp, fun k _ hk => heap_setCell_other w p k u (fun e => hk (by rw [e]))⟩ (.inr hne)
/-- With's own three boxes. -/
structure Box3 (w : World) (cs : Array Value) (id : Int) (wi : World) : Prop where
  bel : Below w.heap.size w wi
  b0 : Blk wi w.heap.size 25 cs
  b1 : Blk wi (w.heap.size + 1) 3 #[.int .i64 id]
  b2 : Blk wi (w.heap.size + 1 + 1) 25 #[.int .u64 0, .slice none 0 0]
theorem Box3.new (w : World) (cs : Array Value) (id : Int) : Box3 w cs id (((w.alloc (.cells cs 25)).alloc (.cells #[.int .i64 id] 3)).alloc (.cells #[.int .u64 0, .slice none 0 0] 25)) := by
  have s1 : (w.alloc (.cells cs 25)).heap.size = w.heap.size + 1 := by simp
  have s2 : ((w.alloc (.cells cs 25)).alloc (.cells #[.int .i64 id] 3)).heap.size = w.heap.size + 1 + 1 := by simp
  refine ⟨(((Below.refl _ _).alloc (Nat.le_refl _) _).alloc (by simp) _).alloc (by rw [s2]; omega) _, ((Blk.new w _ _).alloc _).alloc _, ?_, ?_⟩
  · have := Blk.new (w.alloc (.cells cs 25)) 3 #[.int .i64 id]
    rw [s1] at this
    exact this.alloc _
  · have := Blk.new ((w.alloc (.cells cs 25)).alloc (.cells #[.int .i64 id] 3)) 25 #[.int .u64 0, .slice none 0 0]
    rwa [s2] at this
theorem Box3.below {w wi w' : World} {cs : Array Value} {id : Int} (h : Box3 w cs id wi) (hb : Below wi.heap.size wi w') : Box3 w cs id w' :=
  ⟨h.bel.trans (hb.mono h.bel.size), h.b0.below hb h.b0.lt, h.b1.below hb h.b1.lt, h.b2.below hb h.b2.lt⟩
section
variable (e : Nat) (A : Option Addr) (n cap : Nat) (ms : List Mem) (id wt : Int) (w : World)
set_option maxRecDepth 100000 in
set_option maxHeartbeats 4000000 in
theorem with_set (k : Nat) (he : e < 18446744073709551616) (hr : Hid (Reads w w.heap.size 2 A n (mcells ms))) (h64 : M64 ms) (hc : n ≤ cap) (hm : cap ≤ maxLen) (hk : chk ms = true) (hkn : k < n) (hid : (ms.getD k (0, 0)).1 = id) (hw0 : 0 ≤ wt) (hw1 : wt ≤ 65535) :
    Calls Try.prog 18 #[mapV e A n cap, .int .i64 id, .int .i64 wt] w (RetME ((e + 1) % 18446744073709551616) (ms.map (put id wt)) 0 w) := by
  have H := Lib.hid (fun W h => check_any e A n cap ms W h h64 hc hm)
  have HW := Lib.hid (fun b W h h1 h2 => count_less b id e A n cap ms W h hc hm h1 h2)
  have E0 : Hid (errM (chk ms) = 0) := Lib.hid (by rw [hk]; rfl)
  obtain ⟨hU, hn32⟩ := chk_up hk
  have hl : ms.length = n := by have := hr.out.1; rw [mcells_len] at this; omega
  rw [hl] at hn32
  have HCL := Lib.hid (fun W h => clone_any A n cap ms W h (by omega))
  have E1 : Hid (lessN ms id = k) := Lib.hid (by rw [← hid]; exact lessN_at hU k (by omega))
  have hidr : 1 ≤ id ∧ id ≤ 32 := by
    have := hU.2 (ms.getD k (0, 0)) (by rw [List.getD_eq_getElem?_getD, List.getElem?_eq_getElem (by omega)]; exact List.getElem_mem _)
    omega
  have d1 : decide (id < 1) = false := decide_eq_false (by omega)
  have d2 : decide (32 < id) = false := decide_eq_false (by omega)
  have d3 : decide (wt < 0) = false := decide_eq_false (by omega)
  have d4 : decide (65535 < wt) = false := decide_eq_false (by omega)
  have HU := Lib.hid hU
  have HL := Lib.hid hl
  have HD := Lib.hid hid
  clear hU hl hid hk h64
  unfold maxLen at hm
  unfold mapV at H HW ⊢
  go_enter Try.func18, Try.ntmps18
  go_wp2_with fail
  have hB := Box3.new w #[.int .u64 (e : Int), .slice A n cap] id
  revert hB
  generalize ((w.alloc (.cells #[.int .u64 (e : Int), .slice A n cap] 25)).alloc (.cells #[.int .i64 id] 3)).alloc (.cells #[.int .u64 0, .slice none 0 0] 25) = w1
  intro hB
  have HB := Lib.hid hB
  clear hB
  refine (H.out w1 ((hr.out.below HB.out.bel).more HB.out.bel.size)).mono ?_
  rintro e' w2 ⟨rfl, hb⟩
  have HB := Lib.hid (HB.out.below hb)
  rw [E0.out]
  have x0 := HB.out.b0.cell 0
  have x1 := HB.out.b0.cell 1
  have x2 := HB.out.b1.cell 0
  clear hb
  go_wp2_with fail
  clear x0 x1
  refine (HW.out (w.heap.size + 1) w2 ((hr.out.below HB.out.bel).more HB.out.bel.size) x2 HB.out.b1.lt).mono ?_
  rintro e' w3 ⟨rfl, hb⟩
  have HB := Lib.hid (HB.out.below hb)
  rw [E1.out]
  clear x2 hb
  have x1 := HB.out.b0.cell 1
  go_wp2_with fail
  clear x1
  refine (HCL.out w3 (Lib.hid ((hr.out.below HB.out.bel).more HB.out.bel.size))).mono ?_
  rintro e' w4 ⟨v4, rfl, ho, hb⟩
  have HB3 := HB
  have HB := Lib.hid (HB.out.below hb)
  rw [HL.out] at ho
  obtain ⟨g, c4, rfl, hlo, hhi⟩ := World.ownsRow.form ho (by omega)
  have hc4 : n ≤ c4 ∧ c4 ≤ maxLen := by
    obtain ⟨_, _, ev, q1, q2⟩ := own_slice ho
    injection ev with _ _ ev
    subst ev
    exact ⟨q1, q2⟩
  have hgk := mcells_get ms k (by have := HL.out; omega)
  rw [HD.out] at hgk
  have y0 : w4.cell? ⟨g, k * 2, none⟩ = some (.int .i64 id) := by rw [ho.cellAt (k * 2) (by omega)]; exact hgk.1
  have y1 : w4.cell? ⟨g, k * 2 + 1, none⟩ = some (.int .i64 (ms.getD k (0, 0)).2) := by rw [ho.cellAt (k * 2 + 1) (by omega)]; exact hgk.2
  have y2 := ho.frozenAt (k * 2 + 1)
  have x2 := HB.out.b1.cell 0
  generalize (ms.getD k (0, 0)).2 = ow at *
  have hg0 : w.heap.size + 1 + 1 < g := Nat.lt_of_lt_of_le HB3.out.b2.lt hlo
  have HOwn := Lib.hid ho
  clear hb ho hgk HB3 H HW HCL
  go_wp2
  go_quiet (fail)
  have HOwn : Hid ((w4.drewN nq).ownsRow w3.heap.size 41 2 (.slice (some ⟨g, 0, none⟩) n c4) n (mcells ms)) := HOwn
  have hbq : Below w4.heap.size w4 (w4.drewN nq) := bel_drewN (Below.refl _ _) nq
  have HB := Lib.hid (HB.out.below hbq)
  have y1 : (w4.drewN nq).cell? ⟨g, k * 2 + 1, none⟩ = some (.int .i64 ow) := y1
  have y2 : (w4.drewN nq).frozen? ⟨g, k * 2 + 1, none⟩ = false := y2
  clear hbq y0 x2 hhi
  generalize w4.drewN nq = w5 at *
  have hst := (HOwn.out.stored (k * 2 + 1) (iv wt)).1
  rw [mcells_put HU.out (by have := HL.out; omega) HD.out wt, show iv wt = .int .i64 wt from rfl] at hst
  have HO := Lib.hid hst
  have x0 := HB.out.b0.cell 0
  have x3 := HB.out.b2.cell 0
  have x4 := HB.out.b2.cell 1
  have f3 := HB.out.b2.frozen 0
  have f4 := HB.out.b2.frozen 1
  have n0 : ¬ g = w.heap.size := by omega
  have n1 : ¬ w.heap.size = g := by omega
  have n2 : ¬ g = w.heap.size + 1 + 1 := by omega
  have n3 : ¬ w.heap.size + 1 + 1 = g := by omega
  obtain ⟨e', ee⟩ : ∃ e', (e + 1) % 18446744073709551616 = e' := ⟨_, rfl⟩
  have he1 : IntKind.u64.wrap ((e : Int) + 1) = (e' : Int) := by rw [IntKind.wrap_u64]; omega
  have EE := Lib.hid ee
  clear hst ee
  go_wp2
  rw [EE.out]
  have hW : Hid (Below w.heap.size w (((w5.setCell ⟨g, k * 2 + 1, none⟩ (.int .i64 wt)).setCell ⟨w.heap.size + 1 + 1, 0, none⟩ (.int .u64 (e' : Int))).setCell ⟨w.heap.size + 1 + 1, 1, none⟩ (.slice (some ⟨g, 0, none⟩) n c4))) :=
    Lib.hid (((HB.out.bel.setCell (p := ⟨g, k * 2 + 1, none⟩) (by show _ ≤ g; omega) _).setCell (p := ⟨w.heap.size + 1 + 1, 0, none⟩) (by show _ ≤ _ + 1 + 1; omega) _).setCell (p := ⟨w.heap.size + 1 + 1, 1, none⟩) (by show _ ≤ _ + 1 + 1; omega) _)
  have hR := Reads.of_own (own_far (p := ⟨w.heap.size + 1 + 1, 1, none⟩) (own_far (p := ⟨w.heap.size + 1 + 1, 0, none⟩) HO.out (by simp [Value.ownBlock]; exact n2) (.int .u64 (e' : Int))) (by simp [Value.ownBlock]; exact n2) (.slice (some ⟨g, 0, none⟩) n c4))
  have HR := Lib.hid hR
  clear hR
  refine bodyPost_ret (v := .tuple #[mapV e' (some ⟨g, 0, none⟩) n c4, .int .i64 0]) (by simp [results, Try.results18, go_sem, mapV, x3, x4]) rfl ⟨_, _, _, rfl, HR, hc4.1, hc4.2, hW.out⟩
end
end Go.Proofs.Ytmdffmajnbokeaa
