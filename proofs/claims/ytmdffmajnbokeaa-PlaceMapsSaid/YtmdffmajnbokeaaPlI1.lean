/-
  The library's Insert at members: one member put into a row of the call's own.
-/
import Derived.Test.YtmdffmajnbokeaaPlW12
import Derived.Test.YtmdffmajnbokeaaLibS
import Derived.Laws.CopyRow
import Derived.Laws.CopyOwn
import Derived.Lib.AppendZerosOnto
import Derived.Lib.Overlaps
import Derived.Shelf.Spec.SlicesInsert
namespace Go.Proofs.Ytmdffmajnbokeaa
open Go.RowKit StrMath PlMath
set_option linter.unusedVariables false
theorem run_copy_row2 {P : Program} (w : World) (dT sT ty elem : TypeId) (g o dLen dCap : Nat) (a : Addr) (sLen sCap : Nat) (cur : Array Value) (t : TypeId) (cs : List Value) (k n : Nat)
    (hu : P.underlying dT = some (.slice elem)) (hs : (P.info? elem).map (·.size) = some k)
    (hg : w.heap[g]? = some (.cells cur t (0, 0))) (hm : Nat.min sLen dLen = n) (hn : cs.length = n * k)
    (hsrc : ∀ j v, cs[j]? = some v → w.cell? (a.add j) = some v) (hfit : o + cs.length ≤ cur.size) (h1 : ∀ v ∈ cs, v.oneCell' = true) :
    (Builtin.copy_ #[dT, sT] ty #[.slice (some ⟨g, o, none⟩) dLen dCap, .slice (some a) sLen sCap]).run P w =
      .ok (goInt n) (w.setRow g (cur.toList.take o ++ cs ++ cur.toList.drop (o + cs.length)).toArray) := by
  have hl := run_loadCells_list (P := P) w a cs hsrc
  have hst := run_storeCells_at P g o t cs 0 cur w hg (by simpa using hfit) h1
  cases hq : P.info? elem with
  | none => simp [hq] at hs
  | some i =>
    have hi : i.size = k := by simpa [hq] using hs
    simp [Builtin.copy_, run_underlying hu, Builtin.lenOf, Builtin.firstCells, sizeOf, typeInfo, hq, hi, hm, ← hn, hl, hst]
theorem mcells_append (a b : List Mem) : mcells (a ++ b) = mcells a ++ mcells b := by unfold mcells; rw [List.flatMap_append]
theorem mcells_take (ms : List Mem) (k : Nat) : (mcells ms).take (k * 2) = mcells (ms.take k) := by
  unfold mcells
  induction ms generalizing k with
  | nil => simp
  | cons a l ih =>
    cases k with
    | zero => simp
    | succ k =>
      rw [List.flatMap_cons, show (k + 1) * 2 = k * 2 + 2 by omega, List.take_succ_cons, List.flatMap_cons]
      simp only [List.cons_append, List.nil_append, List.take_succ_cons]
      rw [ih k]
theorem mcells_drop (ms : List Mem) (k : Nat) : (mcells ms).drop (k * 2) = mcells (ms.drop k) := by
  unfold mcells
  induction ms generalizing k with
  | nil => simp
  | cons a l ih =>
    cases k with
    | zero => simp
    | succ k =>
      rw [List.flatMap_cons, show (k + 1) * 2 = k * 2 + 2 by omega, List.drop_succ_cons]
      simp only [List.cons_append, List.nil_append, List.drop_succ_cons]
      rw [ih k]
/-- The row behind one more member. -/
def insM (ms : List Mem) (i : Nat) (x : Mem) : List Mem := ms.take i ++ x :: ms.drop i
theorem insM_len (ms : List Mem) (i : Nat) (x : Mem) (h : i ≤ ms.length) : (insM ms i x).length = ms.length + 1 := by unfold insM; simp; omega
/-- The contract of Insert. -/
def InsC (base : Nat) (v : Value) (n : Nat) (ms : List Mem) (i vb : Nat) (id wt : Int) (w0 w : World) : Prop :=
  Calls Try.prog 34 #[v, .int .i64 (i : Int), .slice (some ⟨vb, 0, none⟩) 1 1] w fun e w' =>
    ∃ v', e = .returned v' ∧ Hid (w'.ownsRow base 41 2 v' (n + 1) (mcells (insM ms i (id, wt)))) ∧ Below base w0 w'
section
variable (base : Nat) (v : Value) (n : Nat) (ms : List Mem) (i vb : Nat) (id wt : Int) (w0 w : World)
set_option maxRecDepth 100000 in
set_option maxHeartbeats 2000000 in
theorem insert_end (hown : Hid (w.ownsRow base 41 2 v n (mcells ms))) (hB : Hid (Below base w0 w)) (hbase : base ≤ w.heap.size) (hv : Hid (Blk w vb 41 #[.int .i64 id, .int .i64 wt])) (hl : Hid (ms.length = n)) (hi : i = n) (hn : n ≤ 1000) :
    InsC base v n ms i vb id wt w0 w := by
  unfold InsC
  subst hi
  obtain ⟨ii, hi1, hi2, hi3, hi4⟩ := info_parts Try.infoMem
  obtain ⟨A, cap, rfl, h1, h2⟩ := own_slice hown.out
  have hsl := slice_from (P := Try.prog) Try.underlying23 hi1 hi3 A i cap i (Nat.le_refl _) h1
  generalize (Value.slice (if cap = i then A else A.map (·.add (i * 2))) (i - i) (cap - i)) = sv at hsl
  have HRD := Lib.hid (show Reads w w.heap.size 2 (some ⟨vb, 0, none⟩) 1 (mcells [(id, wt)]) from ⟨rfl, fun _ => ⟨_, rfl, hv.out.lt, fun j u hu => by
    rw [show (⟨vb, 0, none⟩ : Addr).add j = ⟨vb, j, none⟩ from by unfold Addr.add; split <;> simp_all, hv.out.cell]
    simpa [mcells, iv] using hu⟩⟩)
  have M1 := Lib.hid (mcells_one [(id, wt)])
  unfold maxLen at h2
  clear hi1 hi2 hi3 hi4
  go_enter Try.func34, Try.ntmps34
  go_wp2_with (at_builtin
               refine wpl_append rfl (.tmp 23) (.tmp 24) _ rfl w0 base 41 _ 2 16 Try.underlying23 Try.infoMem rfl (by decide) (.slice A i cap) i (mcells ms) rfl hown.out w.heap.size (some ⟨vb, 0, none⟩) 1 1 (mcells [(id, wt)]) rfl HRD.out M1.out (by omega) (by decide) hB.out hbase ?_
               intro v1 w1 hh)
  go_ret
  refine ⟨v1, rfl, Lib.hid ?_, hh.out.2.1⟩
  have h := hh.out.1
  have hlen := hl.out
  unfold insM
  rw [← hlen, List.take_length, List.drop_length, mcells_append, hlen]
  exact h
theorem ins_list (C X ys : List Value) (p q : Nat) (hX : X.length = q) (hy : ys.length = 2) (hp : p + 2 + q ≤ C.length) :
    (((C.take (p + 2) ++ X ++ C.drop (p + 2 + q)).take p ++ ys ++ (C.take (p + 2) ++ X ++ C.drop (p + 2 + q)).drop (p + 2)).take (p + 2 + q) : List Value) = C.take p ++ ys ++ X := by
  have h1 : (C.take (p + 2) ++ X ++ C.drop (p + 2 + q)).take p = C.take p := by
    rw [List.append_assoc, List.take_append_of_le_length (by rw [List.length_take]; omega), List.take_take, Nat.min_eq_left (by omega)]
  have h2 : (C.take (p + 2) ++ X ++ C.drop (p + 2 + q)).drop (p + 2) = X ++ C.drop (p + 2 + q) := by
    rw [List.append_assoc, List.drop_append, List.drop_of_length_le (by rw [List.length_take]; omega), List.length_take, Nat.min_eq_left (by omega), Nat.sub_self]
    rfl
  rw [h1, h2, ← List.append_assoc]
  have h3 : (C.take p ++ ys ++ X).length = p + 2 + q := by simp only [List.length_append, List.length_take]; omega
  rw [List.take_append_of_le_length (by omega), List.take_of_length_le (by omega)]
theorem ins_list2 (C X ys : List Value) (p q : Nat) (hX : X.length = q) (hy : ys.length = 2) (hp : p + 2 + q ≤ C.length) :
    (((C.take p ++ ys ++ C.drop (p + 2)).take (p + 2) ++ X ++ (C.take p ++ ys ++ C.drop (p + 2)).drop (p + 2 + q)).take (p + 2 + q) : List Value) = C.take p ++ ys ++ X := by
  have h0 : (C.take p ++ ys).length = p + 2 := by simp only [List.length_append, List.length_take]; omega
  have h1 : (C.take p ++ ys ++ C.drop (p + 2)).take (p + 2) = C.take p ++ ys := by
    rw [List.take_append_of_le_length (by omega), List.take_of_length_le (by omega)]
  rw [h1]
  have h3 : (C.take p ++ ys ++ X).length = p + 2 + q := by rw [List.length_append, h0, hX]
  rw [List.take_append_of_le_length (by omega), List.take_of_length_le (by omega)]
set_option maxRecDepth 100000 in
set_option maxHeartbeats 4000000 in
theorem insert_room (g c : Nat) (hown : Hid (w.ownsRow base 41 2 (.slice (some ⟨g, 0, none⟩) n c) n (mcells ms))) (hB : Hid (Below base w0 w)) (hv : Hid (Blk w vb 41 #[.int .i64 id, .int .i64 wt])) (hne : g ≠ vb) (hl : Hid (ms.length = n)) (hi : i < n) (hn : n ≤ 1000) (hr : n + 1 ≤ c) :
    InsC base (.slice (some ⟨g, 0, none⟩) n c) n ms i vb id wt w0 w := by
  unfold InsC
  obtain ⟨ii, hi1, hi2, hi3, hi4⟩ := info_parts Try.infoMem
  obtain ⟨cur, hbg, hg, hcm, hsz, htk⟩ : ∃ cur : Array Value, base ≤ g ∧ w.heap[g]? = some (.cells cur 41 (0, 0)) ∧ c ≤ maxLen ∧ cur.size = c * 2 ∧ cur.toList.take (n * 2) = mcells ms := by
    rcases hown.out.2 with ⟨h, _⟩ | ⟨g', cap', cur, ev, q1, q2, q3, q4, q5, q6⟩
    · cases h
    · injection ev with e1 e2 e3
      injection e1 with e1
      injection e1 with e1
      subst e1
      subst e3
      exact ⟨cur, q1, q2, q4, q5, q6⟩
  have hlen := hl.out
  have hcl : (mcells (ms.drop i)).length = (n - i) * 2 := by rw [mcells_len, List.length_drop, hlen]
  have hgl : ∀ j, j < n * 2 → cur.toList[j]? = (mcells ms)[j]? := fun j hj => by rw [← htk, List.getElem?_take_of_lt hj]
  have hsl := slice_from (P := Try.prog) Try.underlying23 hi1 hi3 (some ⟨g, 0, none⟩) n c i (by omega) (by omega)
  generalize (Value.slice (if c = i then some ⟨g, 0, none⟩ else (some ⟨g, 0, none⟩ : Option Addr).map (·.add (i * 2))) (n - i) (c - i)) = sv at hsl
  have hs1 := slice_to (P := Try.prog) Try.underlying23 hi1 hi3 (some ⟨g, 0, none⟩) n c (n + 1) hr
  have hs2 := slice_from (P := Try.prog) Try.underlying23 hi1 hi3 (some ⟨g, 0, none⟩) (n + 1) c (i + 1) (by omega) (by omega)
  have hs3 := slice_from (P := Try.prog) Try.underlying23 hi1 hi3 (some ⟨g, 0, none⟩) (n + 1) c i (by omega) (by omega)
  have ad : ∀ k, (⟨g, 0, none⟩ : Addr).add k = ⟨g, k, none⟩ := fun k => by unfold Addr.add; split <;> simp_all
  have adk : ∀ o j, (⟨g, o, none⟩ : Addr).add j = ⟨g, o + j, none⟩ := fun o j => by unfold Addr.add; split <;> simp_all
  rw [if_neg (by omega), Option.map_some, ad, show n + 1 - (i + 1) = n - i by omega] at hs2
  rw [if_neg (by omega), Option.map_some, ad] at hs3
  have e1 : ((n + 1 : Nat) : Int) = (n : Int) + 1 := by omega
  have e2 : ((i + 1 : Nat) : Int) = (i : Int) + 1 := by omega
  rw [e1] at hs1
  rw [e2] at hs2
  have hw1 : IntKind.i64.wrap ((i : Int) + 1) = (i : Int) + 1 := by rw [IntKind.wrap_i64]; omega
  have hnq : ((i : Int) == (n : Int)) = false := by rw [beq_eq_false_iff_ne]; omega
  have hgt : decide ((n : Int) + 1 > (c : Int)) = false := decide_eq_false (by omega)
  have hgt2 : decide ((c : Int) < (n : Int) + 1) = false := decide_eq_false (by omega)
  have hz : ∀ W : World, (sizeOf 41).run Try.prog W = .ok 2 W := fun W => by simp [sizeOf, typeInfo, hi1, hi3]
  have hov : ∀ lb cb (W : World), W.heap = w.heap → (callFunc 42 #[.slice (some ⟨vb, 0, none⟩) 1 1, .slice (some ⟨g, (i + 1) * 2, none⟩) lb cb]).run Try.prog W = .ok (.value (.bool false)) W := fun lb cb W hW => by
    have hvW : W.heap[vb]? = some (.cells #[.int .i64 id, .int .i64 wt] 41 (0, 0)) := by rw [hW]; exact hv.out
    have hgW : W.heap[g]? = some (.cells cur 41 (0, 0)) := by rw [hW]; exact hg
    rw [run_callFunc_extern Try.func42 (by kernel_rfl) (by kernel_rfl) (by kernel_rfl) (e := Extern.SlicesOverlaps.overlaps #[23, 23] #[4]) (by kernel_rfl),
      Lib.run_overlaps_apart W 23 4 41 Try.underlying23 2 hz ⟨vb, 0, none⟩ ⟨g, (i + 1) * 2, none⟩ 1 1 lb cb (fun h => hne h.symm) 41 41 2 cur.size (by simp [World.shape?, hvW]) (by simp [World.shape?, hgW]) (by omega) (by simp [World.frozen?, hvW]) (by simp [World.frozen?, hvW])]
    rfl
  have hszi : (Try.prog.info? 41).map (·.size) = some 2 := by rw [hi1]; simp [hi3]
  have hcl5 : cur.toList.length = c * 2 := by simpa using hsz
  obtain ⟨cur1, hc1⟩ : ∃ cur1 : Array Value, cur1 = (cur.toList.take ((i + 1) * 2) ++ mcells (ms.drop i) ++ cur.toList.drop ((i + 1) * 2 + (n - i) * 2)).toArray := ⟨_, rfl⟩
  have hs1z : cur1.size = c * 2 := by rw [hc1]; simp only [List.size_toArray, List.length_append, List.length_take, List.length_drop, hcl, hcl5]; omega
  obtain ⟨cur2, hc2⟩ : ∃ cur2 : Array Value, cur2 = (cur1.toList.take (i * 2) ++ ([.int .i64 id, .int .i64 wt] : List Value) ++ cur1.toList.drop (i * 2 + 2)).toArray := ⟨_, rfl⟩
  have hcp1 : ∀ (W : World), W.heap = w.heap → ∀ ty dc sc, (Builtin.copy_ #[23, 23] ty #[.slice (some ⟨g, (i + 1) * 2, none⟩) (n - i) dc, .slice (some ⟨g, i * 2, none⟩) (n + 1 - i) sc]).run Try.prog W = .ok (goInt (n - i : Nat)) (W.setRow g cur1) := fun W hW ty dc sc => by
    have h := run_copy_row2 (P := Try.prog) W 23 23 ty 41 g ((i + 1) * 2) (n - i) dc ⟨g, i * 2, none⟩ (n + 1 - i) sc cur 41 (mcells (ms.drop i)) 2 (n - i) Try.underlying23 hszi (by rw [hW]; exact hg) (by simp only [Nat.min_def]; split <;> omega) hcl (fun j v hj => by
      have hjl : j < (n - i) * 2 := by have := (List.getElem?_eq_some_iff.1 hj).1; omega
      rw [adk, cell_of_row W g (i * 2 + j) cur 41 (0, 0) (by rw [hW]; exact hg)]
      rw [← mcells_drop, List.getElem?_drop, ← hgl _ (by omega)] at hj
      simpa using hj) (by rw [hcl]; omega) (mcells_one _)
    rw [hcl, ← hc1] at h
    exact h
  have hcp2 : ∀ (W : World), W.heap[g]? = some (.cells cur1 41 (0, 0)) → W.heap[vb]? = some (.cells #[.int .i64 id, .int .i64 wt] 41 (0, 0)) → ∀ ty dc, (Builtin.copy_ #[23, 23] ty #[.slice (some ⟨g, i * 2, none⟩) (n + 1 - i) dc, .slice (some ⟨vb, 0, none⟩) 1 1]).run Try.prog W = .ok (goInt (1 : Nat)) (W.setRow g cur2) := fun W hW hW2 ty dc => by
    have h := run_copy_row2 (P := Try.prog) W 23 23 ty 41 g (i * 2) (n + 1 - i) dc ⟨vb, 0, none⟩ 1 1 cur1 41 [.int .i64 id, .int .i64 wt] 2 1 Try.underlying23 hszi hW (by simp only [Nat.min_def]; split <;> omega) rfl (fun j v hj => by
      have adv : (⟨vb, 0, none⟩ : Addr).add j = ⟨vb, j, none⟩ := by unfold Addr.add; split <;> simp_all
      rw [adv, cell_of_row W vb j _ 41 (0, 0) hW2]
      simpa using hj) (by rw [hs1z]; show i * 2 + 2 ≤ _; omega) (by intro u hu; simp only [List.mem_cons, List.not_mem_nil, or_false] at hu; rcases hu with rfl | rfl <;> rfl)
    rw [show ([.int .i64 id, .int .i64 wt] : List Value).length = 2 from rfl, ← hc2] at h
    exact h
  have hfin : cur2.toList.take ((n + 1) * 2) = mcells (insM ms i (id, wt)) := by
    have h := ins_list cur.toList (mcells (ms.drop i)) [.int .i64 id, .int .i64 wt] (i * 2) ((n - i) * 2) hcl rfl (by rw [hcl5]; omega)
    rw [hc2, hc1]
    rw [show (i + 1) * 2 = i * 2 + 2 by omega, show (n + 1) * 2 = i * 2 + 2 + (n - i) * 2 by omega]
    rw [h]
    have h2 : cur.toList.take (i * 2) = mcells (ms.take i) := by
      rw [← mcells_take, ← htk, List.take_take, Nat.min_eq_left (by omega)]
    rw [h2]
    unfold insM
    rw [mcells_append, List.append_assoc]
    rfl
  have hs2z : cur2.size = c * 2 := by rw [hc2]; simp only [List.size_toArray, List.length_append, List.length_take, List.length_drop, Array.length_toList, hs1z, List.length_cons, List.length_nil]; omega
  have HFIN := Lib.hid (And.intro hfin hs2z)
  have HG := Lib.hid hg
  have HBG := Lib.hid hbg
  have HCM := Lib.hid hcm
  have HV := hv
  have hge : g < w.heap.size := (Blk.lt (cs := cur) (t := 41) hg)
  clear hc1 hc2 hfin hs2z hs1z hg hszi hcl5 hcl hgl htk hsz hlen hbg hcm adk
  unfold maxLen at HCM
  obtain ⟨w5, hw5⟩ : ∃ w5, w.drew.setRow g cur1 = w5 := ⟨_, rfl⟩
  have hc9 := hcp1 w.drew rfl 3 (c - (i + 1)) (c - i)
  rw [hw5] at hc9
  have HB5 := Lib.hid (show Below base w0 w5 from by rw [← hw5]; exact below_setRow (bel_drewN hB.out 1) HBG.out _)
  have hg5 : w5.heap[g]? = some (.cells cur1 41 (0, 0)) := by rw [← hw5]; exact setRow_heap w.drew g _ _ _ _ HG.out
  have hv5 : w5.heap[vb]? = some (.cells #[.int .i64 id, .int .i64 wt] 41 (0, 0)) := by rw [← hw5]; exact (setRow_other w.drew g vb _ (fun h => hne h.symm)).trans hv.out
  have HG5 := Lib.hid hg5
  have hc10 := hcp2 w5 hg5 hv5 3 (c - i)
  clear hw5 hg5 hv5 hcp1 hcp2
  go_enter Try.func34, Try.ntmps34
  go_wp2_with (simp only [hov _ _ _ rfl])
  go_region
  clear hc9
  go_wp2
  go_ret
  refine ⟨_, rfl, Lib.hid ⟨by rw [mcells_len, insM_len _ _ _ (by have := hl.out; omega), hl.out], .inr ⟨g, c, cur2, rfl, HBG.out, setRow_heap _ g _ _ _ _ HG5.out, hr, HCM.out, HFIN.out.2, HFIN.out.1⟩⟩, ?_⟩
  exact below_setRow HB5.out HBG.out _
set_option maxRecDepth 100000 in
set_option maxHeartbeats 4000000 in
theorem insert_grow (g c : Nat) (hown : Hid (w.ownsRow base 41 2 (.slice (some ⟨g, 0, none⟩) n c) n (mcells ms))) (hB : Hid (Below base w0 w)) (hv : Hid (Blk w vb 41 #[.int .i64 id, .int .i64 wt])) (hne : g ≠ vb) (hl : Hid (ms.length = n)) (hi : i < n) (hn : n ≤ 1000) (hr : c < n + 1) (hcn : n ≤ c) (hbase : base ≤ w.heap.size) :
    InsC base (.slice (some ⟨g, 0, none⟩) n c) n ms i vb id wt w0 w := by
  unfold InsC
  obtain ⟨ii, hi1, hi2, hi3, hi4⟩ := info_parts Try.infoMem
  obtain ⟨cur, hbg, hg, hcm, hsz, htk⟩ : ∃ cur : Array Value, base ≤ g ∧ w.heap[g]? = some (.cells cur 41 (0, 0)) ∧ c ≤ maxLen ∧ cur.size = c * 2 ∧ cur.toList.take (n * 2) = mcells ms := by
    rcases hown.out.2 with ⟨h, _⟩ | ⟨g', cap', cur, ev, q1, q2, q3, q4, q5, q6⟩
    · cases h
    · injection ev with e1 e2 e3
      injection e1 with e1
      injection e1 with e1
      subst e1
      subst e3
      exact ⟨cur, q1, q2, q4, q5, q6⟩
  have hlen := hl.out
  have hcl : (mcells (ms.drop i)).length = (n - i) * 2 := by rw [mcells_len, List.length_drop, hlen]
  have hgl : ∀ j, j < n * 2 → cur.toList[j]? = (mcells ms)[j]? := fun j hj => by rw [← htk, List.getElem?_take_of_lt hj]
  have hsl := slice_from (P := Try.prog) Try.underlying23 hi1 hi3 (some ⟨g, 0, none⟩) n c i (by omega) (by omega)
  have ad : ∀ b k, (⟨b, 0, none⟩ : Addr).add k = ⟨b, k, none⟩ := fun b k => by unfold Addr.add; split <;> simp_all
  have adk : ∀ b o j, (⟨b, o, none⟩ : Addr).add j = ⟨b, o + j, none⟩ := fun b o j => by unfold Addr.add; split <;> simp_all
  rw [if_neg (by omega), Option.map_some, ad] at hsl
  have hs1 := slice_to (P := Try.prog) Try.underlying23 hi1 hi3 (some ⟨g, 0, none⟩) n c i (by omega)
  have hgh : g < w.heap.size := (Blk.lt (cs := cur) (t := 41) hg)
  have hvh : vb < w.heap.size := hv.out.lt
  have hszi : (Try.prog.info? 41).map (·.size) = some 2 := by rw [hi1]; simp [hi3]
  have hold : (Builtin.firstCells ii.size i (.slice (some ⟨g, 0, none⟩) i c)).run Try.prog w.drew = .ok (mcells (ms.take i)).toArray w.drew := by
    rw [hi3]
    exact run_firstCells_some w.drew 2 i ⟨g, 0, none⟩ i c (mcells (ms.take i)) (by rw [mcells_len, List.length_take, hlen]; omega) (fun j v hj => by
      have hjl : j < i * 2 := by have := (List.getElem?_eq_some_iff.1 hj).1; rw [mcells_len, List.length_take, hlen] at this; omega
      rw [ad, cell_of_row w.drew g j cur 41 (0, 0) hg]
      rw [← mcells_take, List.getElem?_take_of_lt hjl, ← hgl _ (by omega)] at hj
      simpa using hj)
  have hrz := Lib.run_append_grow_zeros (P := Try.prog) w 23 3 23 41 ii _ .i64 .i64 Try.underlying23 Try.underlying3 hi1 hi2 (some ⟨g, 0, none⟩) i c (mcells (ms.take i)) hold (n + 1 - i) (by omega) (by omega) (by omega) (by omega) (by rw [hi4]; omega) (by rw [hi4]; exact growslice_fits (by omega) (by omega))
  rw [show i + (n + 1 - i) = n + 1 by omega, show ((n + 1 - i : Nat) : Int) = (n : Int) + 1 - (i : Int) by omega] at hrz
  have hGn : n + 1 ≤ grownCap w (n + 1) c 41 := grownCap_ge w _ _ _
  have hG63 := grownCap_le_maxLen w (n + 1) c 41 (by unfold maxLen; omega)
  generalize grownCap w (n + 1) c 41 = G at *
  obtain ⟨ROW, hROW⟩ : ∃ ROW : Array Value, ROW = (mcells (ms.take i)).toArray ++ Builtin.zeroCells (Value.agg #[.int .i64 0, .int .i64 0]).cells (n + 1 - i) ++ Builtin.zeroCells (Value.agg #[.int .i64 0, .int .i64 0]).cells (G - (n + 1)) := ⟨_, rfl⟩
  have hRz : ROW.size = G * 2 := by
    rw [hROW]
    simp only [Array.size_append, List.size_toArray, mcells_len, List.length_take, hlen]
    have hzc : ∀ k, (Builtin.zeroCells (Value.agg #[.int .i64 0, .int .i64 0]).cells k).size = k * 2 := fun k => by simp [Builtin.zeroCells, Value.cells]
    rw [hzc, hzc]
    omega
  have hRt : ROW.toList.take (i * 2) = mcells (ms.take i) := by
    rw [hROW]
    have hl2 : (mcells (ms.take i)).length = i * 2 := by rw [mcells_len, List.length_take, hlen]; omega
    simp only [Array.toList_append, List.append_assoc]
    rw [List.take_append_of_le_length (by omega), List.take_of_length_le (by omega)]
  rw [← hROW] at hrz
  obtain ⟨H, hH⟩ : ∃ H, H = w.heap.size := ⟨_, rfl⟩
  obtain ⟨w1, hw1⟩ : ∃ w1, w.drew.alloc (.cells ROW 41) = w1 := ⟨_, rfl⟩
  rw [hw1, ← hH] at hrz
  have hRl : ROW.toList.length = G * 2 := by simpa using hRz
  have g1 : w1.heap[H]? = some (.cells ROW 41 (0, 0)) := by rw [← hw1, hH]; exact Blk.new w.drew _ _
  have v1 : w1.heap[vb]? = some (.cells #[.int .i64 id, .int .i64 wt] 41 (0, 0)) := by rw [← hw1]; exact (Blk.alloc (w := w.drew) hv.out _)
  have c1 : w1.heap[g]? = some (.cells cur 41 (0, 0)) := by rw [← hw1]; exact (Blk.alloc (w := w.drew) hg _)
  have hB1 : Below base w0 w1 := by rw [← hw1]; exact (bel_drewN hB.out 1).alloc hbase _
  obtain ⟨row1, hr1⟩ : ∃ row1 : Array Value, row1 = (ROW.toList.take (i * 2) ++ ([.int .i64 id, .int .i64 wt] : List Value) ++ ROW.toList.drop (i * 2 + 2)).toArray := ⟨_, rfl⟩
  have hr1z : row1.size = G * 2 := by rw [hr1]; simp only [List.size_toArray, List.length_append, List.length_take, List.length_drop, hRl, List.length_cons, List.length_nil]; omega
  have hs2 := slice_from (P := Try.prog) Try.underlying23 hi1 hi3 (some ⟨H, 0, none⟩) (n + 1) G i (by omega) hGn
  rw [if_neg (by omega), Option.map_some, ad] at hs2
  have hs3 := slice_from (P := Try.prog) Try.underlying23 hi1 hi3 (some ⟨H, 0, none⟩) (n + 1) G (i + 1) (by omega) hGn
  rw [if_neg (by omega), Option.map_some, ad, show n + 1 - (i + 1) = n - i by omega, show ((i + 1 : Nat) : Int) = (i : Int) + 1 by omega] at hs3
  have hcA := run_copy_row2 (P := Try.prog) w1 23 23 3 41 H (i * 2) (n + 1 - i) (G - i) ⟨vb, 0, none⟩ 1 1 ROW 41 [.int .i64 id, .int .i64 wt] 2 1 Try.underlying23 hszi g1 (by simp only [Nat.min_def]; split <;> omega) rfl (fun j v hj => by
      rw [ad, cell_of_row w1 vb j _ 41 (0, 0) v1]
      simpa using hj) (by rw [hRz]; show i * 2 + 2 ≤ _; omega) (by intro u hu; simp only [List.mem_cons, List.not_mem_nil, or_false] at hu; rcases hu with rfl | rfl <;> rfl)
  rw [show ([.int .i64 id, .int .i64 wt] : List Value).length = 2 from rfl, ← hr1] at hcA
  obtain ⟨w2, hw2⟩ : ∃ w2, w1.setRow H row1 = w2 := ⟨_, rfl⟩
  rw [hw2] at hcA
  have g2 : w2.heap[H]? = some (.cells row1 41 (0, 0)) := by rw [← hw2]; exact setRow_heap w1 H _ _ _ _ g1
  have c2 : w2.heap[g]? = some (.cells cur 41 (0, 0)) := by rw [← hw2]; exact (setRow_other w1 H g _ (by omega)).trans c1
  have hB2 : Below base w0 w2 := by rw [← hw2]; exact below_setRow hB1 (by omega) _
  obtain ⟨row2, hr2⟩ : ∃ row2 : Array Value, row2 = (row1.toList.take ((i + 1) * 2) ++ mcells (ms.drop i) ++ row1.toList.drop ((i + 1) * 2 + (n - i) * 2)).toArray := ⟨_, rfl⟩
  have hr1l : row1.toList.length = G * 2 := by simpa using hr1z
  have hr2z : row2.size = G * 2 := by rw [hr2]; simp only [List.size_toArray, List.length_append, List.length_take, List.length_drop, hcl, hr1l]; omega
  have hcB := run_copy_row2 (P := Try.prog) w2.drew 23 23 3 41 H ((i + 1) * 2) (n - i) (G - (i + 1)) ⟨g, i * 2, none⟩ (n - i) (c - i) row1 41 (mcells (ms.drop i)) 2 (n - i) Try.underlying23 hszi g2 (by simp only [Nat.min_def]; split <;> omega) hcl (fun j v hj => by
      have hjl : j < (n - i) * 2 := by have := (List.getElem?_eq_some_iff.1 hj).1; omega
      rw [adk, cell_of_row w2.drew g (i * 2 + j) cur 41 (0, 0) c2]
      rw [← mcells_drop, List.getElem?_drop, ← hgl _ (by omega)] at hj
      simpa using hj) (by rw [hr1z, hcl]; omega) (mcells_one _)
  rw [hcl, ← hr2] at hcB
  obtain ⟨w3, hw3⟩ : ∃ w3, w2.drew.setRow H row2 = w3 := ⟨_, rfl⟩
  rw [hw3] at hcB
  have HB3 := Lib.hid (show Below base w0 w3 from by rw [← hw3]; exact below_setRow (bel_drewN hB2 1) (by omega) _)
  have HG3 := Lib.hid (show w3.heap[H]? = some (.cells row2 41 (0, 0)) from by rw [← hw3]; exact setRow_heap w2.drew H _ _ _ _ g2)
  have hfin : row2.toList.take ((n + 1) * 2) = mcells (insM ms i (id, wt)) := by
    have h := ins_list2 ROW.toList (mcells (ms.drop i)) [.int .i64 id, .int .i64 wt] (i * 2) ((n - i) * 2) hcl rfl (by rw [hRl]; omega)
    rw [hr2, hr1]
    rw [show (i + 1) * 2 = i * 2 + 2 by omega, show (n + 1) * 2 = i * 2 + 2 + (n - i) * 2 by omega]
    rw [h, hRt]
    unfold insM
    rw [mcells_append, List.append_assoc]
    rfl
  have HFIN := Lib.hid (And.intro hfin hr2z)
  have HH := Lib.hid (show base ≤ H from by omega)
  have hw9 : IntKind.i64.wrap ((i : Int) + 1) = (i : Int) + 1 := by rw [IntKind.wrap_i64]; omega
  have hnq : ((i : Int) == (n : Int)) = false := by rw [beq_eq_false_iff_ne]; omega
  have hgt : decide ((n : Int) + 1 > (c : Int)) = true := decide_eq_true (by omega)
  have hgt2 : decide ((c : Int) < (n : Int) + 1) = true := decide_eq_true (by omega)
  unfold maxLen at hG63
  have HG6 := Lib.hid (And.intro hGn hG63)
  clear hfin hr2z hr1l hr2 hw3 hw2 hw1 hr1 hr1z hRl hRt hRz hROW hold hszi hgl hcl htk hsz hg hbg hcm hB1 hB2 g1 g2 v1 c1 c2 adk ad hH hi1 hi2 hi3 hi4 hlen hgh hvh
  go_enter Try.func34, Try.ntmps34
  go_wp2_with (at_builtin; refine Lib.wpList_append_run _ rfl _ _ _ _ rfl _ _ rfl rfl _ _ hrz ?_)
  clear hrz hcA
  go_region
  clear hcB
  go_wp2
  go_ret
  exact ⟨_, rfl, Lib.hid ⟨by rw [mcells_len, insM_len _ _ _ (by have := hl.out; omega), hl.out], .inr ⟨H, G, row2, rfl, HH.out, HG3.out, HG6.out.1, HG6.out.2, HFIN.out.2, HFIN.out.1⟩⟩, HB3.out⟩
/-- INSERT. -/
theorem insert_any (hown : Hid (w.ownsRow base 41 2 v n (mcells ms))) (hB : Hid (Below base w0 w)) (hbase : base ≤ w.heap.size) (hv : Hid (Blk w vb 41 #[.int .i64 id, .int .i64 wt])) (hne : v.ownBlock ≠ some vb) (hl : Hid (ms.length = n)) (hi : i ≤ n) (hn : n ≤ 1000) :
    InsC base v n ms i vb id wt w0 w := by
  by_cases c1 : i = n
  · exact insert_end base v n ms i vb id wt w0 w hown hB hbase hv hl c1 hn
  · obtain ⟨g, c, rfl⟩ : ∃ g c, v = .slice (some ⟨g, 0, none⟩) n c := by
      rcases hown.out.2 with ⟨_, h⟩ | ⟨g', cap', cur, ev, _⟩
      · omega
      · exact ⟨g', cap', ev⟩
    have hcn : n ≤ c := by
      obtain ⟨_, _, ev, q1, q2⟩ := own_slice hown.out
      injection ev with _ _ ev
      subst ev
      exact q1
    have hg : g ≠ vb := fun h => hne (by rw [h]; rfl)
    by_cases c2 : n + 1 ≤ c
    · exact insert_room base n ms i vb id wt w0 w g c hown hB hv hg hl (by omega) hn c2
    · exact insert_grow base n ms i vb id wt w0 w g c hown hB hv hg hl (by omega) hn (by omega) hcn hbase
end
end Go.Proofs.Ytmdffmajnbokeaa
