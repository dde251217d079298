/-
  wire.Check, OF ANY MESSAGE. (printed by gen_wirc5.py). (joined out of WirC5 by shake.py)
-/
import Derived.Test.YtlnneacgllhdhaaGreatDoorWpv40
section
namespace Go.Proofs.YtlnneacgllhdhaaGreatDoor
open Go.RowKit OctMath
set_option linter.unusedVariables false
set_option linter.unusedSimpArgs false
theorem txt0_ok : TxtOk [] := ⟨(fun y h => by cases h), by decide⟩
theorem i0_ok : I64 0 := by unfold I64; decide
theorem zM_ok {n : Nat} (h1 : 1 ≤ n) (h2 : n ≤ 13) {m : MG} (h : MsgOk m.x) : MsgOk (zM n m).x := by
  have hn : n = 1 ∨ n = 2 ∨ n = 3 ∨ n = 4 ∨ n = 5 ∨ n = 6 ∨ n = 7 ∨ n = 8 ∨ n = 9 ∨ n = 10 ∨ n = 11 ∨ n = 12 ∨ n = 13 := by omega
  rcases hn with rfl | rfl | rfl | rfl | rfl | rfl | rfl | rfl | rfl | rfl | rfl | rfl | rfl
  · exact ⟨h.kind, h.from_, h.to_, (by decide : (0 : Nat) < 18446744073709551616), (by decide : (0 : Nat) < 18446744073709551616), (by decide : (0 : Nat) < 18446744073709551616), h.commit, h.ctx, h.ents, h.conf, h.head, h.data, h.client, h.seq, h.op, h.key, h.code, h.names⟩
  · exact ⟨h.kind, h.from_, h.to_, (by decide : (0 : Nat) < 18446744073709551616), h.index, h.logTerm, h.commit, h.ctx, h.ents, h.conf, h.head, h.data, h.client, h.seq, h.op, h.key, h.code, h.names⟩
  · exact ⟨h.kind, h.from_, h.to_, h.term, h.index, h.logTerm, h.commit, h.ctx, h.ents, h.conf, hd0_ok, h.data, h.client, h.seq, h.op, h.key, h.code, h.names⟩
  · exact ⟨h.kind, h.from_, h.to_, h.term, h.index, h.logTerm, h.commit, (by decide : (0 : Nat) < 18446744073709551616), h.ents, h.conf, h.head, h.data, h.client, h.seq, h.op, h.key, h.code, h.names⟩
  · exact ⟨h.kind, h.from_, h.to_, (by decide : (0 : Nat) < 18446744073709551616), (by decide : (0 : Nat) < 18446744073709551616), (by decide : (0 : Nat) < 18446744073709551616), (by decide : (0 : Nat) < 18446744073709551616), (by decide : (0 : Nat) < 18446744073709551616), ⟨(fun y h => by cases h), (by decide : (0 : Nat) ≤ 1048576)⟩, h.conf, h.head, h.data, h.client, h.seq, h.op, h.key, h.code, h.names⟩
  · exact ⟨h.kind, h.from_, h.to_, (by decide : (0 : Nat) < 18446744073709551616), (by decide : (0 : Nat) < 18446744073709551616), h.logTerm, h.commit, (by decide : (0 : Nat) < 18446744073709551616), h.ents, h.conf, h.head, h.data, h.client, h.seq, h.op, h.key, h.code, h.names⟩
  · exact ⟨h.kind, h.from_, h.to_, (by decide : (0 : Nat) < 18446744073709551616), (by decide : (0 : Nat) < 18446744073709551616), (by decide : (0 : Nat) < 18446744073709551616), h.commit, h.ctx, h.ents, ⟨ints0_ok, ints0_ok⟩, h.head, txt0_ok, h.client, h.seq, h.op, h.key, h.code, h.names⟩
  · exact ⟨h.kind, h.from_, h.to_, (by decide : (0 : Nat) < 18446744073709551616), h.index, h.logTerm, h.commit, h.ctx, h.ents, h.conf, h.head, h.data, h.client, h.seq, h.op, h.key, h.code, h.names⟩
  · exact ⟨h.kind, h.from_, h.to_, h.term, h.index, h.logTerm, h.commit, h.ctx, h.ents, h.conf, hd0_ok, txt0_ok, h.client, h.seq, h.op, h.key, h.code, h.names⟩
  · exact ⟨h.kind, h.from_, h.to_, h.term, h.index, h.logTerm, h.commit, h.ctx, h.ents, h.conf, hd0_ok, h.data, h.client, h.seq, h.op, h.key, h.code, h.names⟩
  · exact ⟨h.kind, h.from_, h.to_, h.term, h.index, h.logTerm, h.commit, h.ctx, h.ents, h.conf, hd0_ok, txt0_ok, h.client, h.seq, h.op, h.key, h.code, h.names⟩
  · exact ⟨h.kind, h.from_, h.to_, h.term, h.index, h.logTerm, h.commit, h.ctx, h.ents, h.conf, h.head, txt0_ok, (by decide : (0 : Nat) < 18446744073709551616), (by decide : (0 : Nat) < 18446744073709551616), i0_ok, txt0_ok, h.code, h.names⟩
  · exact ⟨h.kind, h.from_, h.to_, h.term, h.index, h.logTerm, h.commit, (by decide : (0 : Nat) < 18446744073709551616), h.ents, h.conf, h.head, txt0_ok, (by decide : (0 : Nat) < 18446744073709551616), (by decide : (0 : Nat) < 18446744073709551616), h.op, h.key, i0_ok, ⟨(fun y h => by cases h), (by decide : (0 : Nat) ≤ 1048576)⟩⟩
theorem zM_es {n : Nat} (h1 : 1 ≤ n) (h2 : n ≤ 13) (m : MG) : (zM n m).es.length ≤ m.es.length := by
  have hn : n = 1 ∨ n = 2 ∨ n = 3 ∨ n = 4 ∨ n = 5 ∨ n = 6 ∨ n = 7 ∨ n = 8 ∨ n = 9 ∨ n = 10 ∨ n = 11 ∨ n = 12 ∨ n = 13 := by omega
  rcases hn with rfl | rfl | rfl | rfl | rfl | rfl | rfl | rfl | rfl | rfl | rfl | rfl | rfl <;> first | exact Nat.le_refl _ | exact Nat.zero_le _
theorem useOf_cases (k : Int) : useOf k = 0 ∧ (∀ j : Nat, 1 ≤ j → j ≤ 19 → k ≠ (j : Int)) ∨ 1 ≤ useOf k ∧ useOf k ≤ 13 ∧ (Lit.int .i64 k).wf = true ∧ (DataW.map useL).atKey (.int .i64 k) (.held .nilFunc) = .held (fnv (useF (useOf k))) ∧ Go.Maps.has (DataW.map useL) (.int .i64 k) = true := by
  by_cases h : 1 ≤ k ∧ k ≤ 19
  · obtain ⟨n, rfl⟩ := Int.eq_ofNat_of_zero_le (show 0 ≤ k by omega)
    have hn : n = 1 ∨ n = 2 ∨ n = 3 ∨ n = 4 ∨ n = 5 ∨ n = 6 ∨ n = 7 ∨ n = 8 ∨ n = 9 ∨ n = 10 ∨ n = 11 ∨ n = 12 ∨ n = 13 ∨ n = 14 ∨ n = 15 ∨ n = 16 ∨ n = 17 ∨ n = 18 ∨ n = 19 := by omega
    right
    rcases hn with rfl | rfl | rfl | rfl | rfl | rfl | rfl | rfl | rfl | rfl | rfl | rfl | rfl | rfl | rfl | rfl | rfl | rfl | rfl
    · exact ⟨by decide, by decide, by decide, by kernel_rfl, by kernel_rfl⟩
    · exact ⟨by decide, by decide, by decide, by kernel_rfl, by kernel_rfl⟩
    · exact ⟨by decide, by decide, by decide, by kernel_rfl, by kernel_rfl⟩
    · exact ⟨by decide, by decide, by decide, by kernel_rfl, by kernel_rfl⟩
    · exact ⟨by decide, by decide, by decide, by kernel_rfl, by kernel_rfl⟩
    · exact ⟨by decide, by decide, by decide, by kernel_rfl, by kernel_rfl⟩
    · exact ⟨by decide, by decide, by decide, by kernel_rfl, by kernel_rfl⟩
    · exact ⟨by decide, by decide, by decide, by kernel_rfl, by kernel_rfl⟩
    · exact ⟨by decide, by decide, by decide, by kernel_rfl, by kernel_rfl⟩
    · exact ⟨by decide, by decide, by decide, by kernel_rfl, by kernel_rfl⟩
    · exact ⟨by decide, by decide, by decide, by kernel_rfl, by kernel_rfl⟩
    · exact ⟨by decide, by decide, by decide, by kernel_rfl, by kernel_rfl⟩
    · exact ⟨by decide, by decide, by decide, by kernel_rfl, by kernel_rfl⟩
    · exact ⟨by decide, by decide, by decide, by kernel_rfl, by kernel_rfl⟩
    · exact ⟨by decide, by decide, by decide, by kernel_rfl, by kernel_rfl⟩
    · exact ⟨by decide, by decide, by decide, by kernel_rfl, by kernel_rfl⟩
    · exact ⟨by decide, by decide, by decide, by kernel_rfl, by kernel_rfl⟩
    · exact ⟨by decide, by decide, by decide, by kernel_rfl, by kernel_rfl⟩
    · exact ⟨by decide, by decide, by decide, by kernel_rfl, by kernel_rfl⟩
  · left
    refine ⟨?_, fun j h1 h2 e => h ⟨by omega, by omega⟩⟩
    unfold useOf
    repeat rw [if_neg (by omega)]
theorem look_no (k : Int) (h : ∀ j : Nat, 1 ≤ j → j ≤ 19 → k ≠ (j : Int)) : (DataW.map useL).atKey (.int .i64 k) (.held .nilFunc) = .held .nilFunc ∧ Go.Maps.has (DataW.map useL) (.int .i64 k) = false := by
  have n1 : k ≠ 1 := h 1 (by decide) (by decide)
  have n2 : k ≠ 2 := h 2 (by decide) (by decide)
  have n3 : k ≠ 3 := h 3 (by decide) (by decide)
  have n4 : k ≠ 4 := h 4 (by decide) (by decide)
  have n5 : k ≠ 5 := h 5 (by decide) (by decide)
  have n6 : k ≠ 6 := h 6 (by decide) (by decide)
  have n7 : k ≠ 7 := h 7 (by decide) (by decide)
  have n8 : k ≠ 8 := h 8 (by decide) (by decide)
  have n9 : k ≠ 9 := h 9 (by decide) (by decide)
  have n10 : k ≠ 10 := h 10 (by decide) (by decide)
  have n11 : k ≠ 11 := h 11 (by decide) (by decide)
  have n12 : k ≠ 12 := h 12 (by decide) (by decide)
  have n13 : k ≠ 13 := h 13 (by decide) (by decide)
  have n14 : k ≠ 14 := h 14 (by decide) (by decide)
  have n15 : k ≠ 15 := h 15 (by decide) (by decide)
  have n16 : k ≠ 16 := h 16 (by decide) (by decide)
  have n17 : k ≠ 17 := h 17 (by decide) (by decide)
  have n18 : k ≠ 18 := h 18 (by decide) (by decide)
  have n19 : k ≠ 19 := h 19 (by decide) (by decide)
  constructor
  · simp [useL, DataW.atKey, Lit.sameKey, n1, n2, n3, n4, n5, n6, n7, n8, n9, n10, n11, n12, n13, n14, n15, n16, n17, n18, n19, Ne.symm n1, Ne.symm n2, Ne.symm n3, Ne.symm n4, Ne.symm n5, Ne.symm n6, Ne.symm n7, Ne.symm n8, Ne.symm n9, Ne.symm n10, Ne.symm n11, Ne.symm n12, Ne.symm n13, Ne.symm n14, Ne.symm n15, Ne.symm n16, Ne.symm n17, Ne.symm n18, Ne.symm n19]
  · simp [useL, Go.Maps.has, Lit.sameKey, n1, n2, n3, n4, n5, n6, n7, n8, n9, n10, n11, n12, n13, n14, n15, n16, n17, n18, n19, Ne.symm n1, Ne.symm n2, Ne.symm n3, Ne.symm n4, Ne.symm n5, Ne.symm n6, Ne.symm n7, Ne.symm n8, Ne.symm n9, Ne.symm n10, Ne.symm n11, Ne.symm n12, Ne.symm n13, Ne.symm n14, Ne.symm n15, Ne.symm n16, Ne.symm n17, Ne.symm n18, Ne.symm n19]
set_option maxRecDepth 100000 in
theorem look_none {w : World} {b : Nat} (hm : w.ownsMap Tryz.prog 22 RV b 19 (.map useL)) (k : Int) (hk : (Lit.int .i64 k).wf = true) (h1 : (DataW.map useL).atKey (.int .i64 k) (.held .nilFunc) = .held .nilFunc) (h2 : Go.Maps.has (DataW.map useL) (.int .i64 k) = false) :
    (Instr.lookup 91 (.map (some b)) (.int .i64 k) true).run Tryz.prog w = .ok (.tuple #[.nilFunc, .bool false]) w := by
  generalize useL = L at *
  obtain ⟨v, ps, hrun, hv⟩ := hm.look_ok lawKind Tryz.underlying91 (zeroUse w) (zd := .held .nilFunc) (zp := []) rfl (Go.Maps.keyOf_int_mk Tryz.underlying22 hk)
  rw [h1] at hv
  rw [h2] at hrun
  injection hv with hv
  injection hv with hv _
  injection hv with hv
  rw [hrun, hv]
theorem enters {P : Program} {f : FuncId} {fn : Func} (hf : P.funcs[f]? = some fn) (hname : (fn.name == "runtime.NumGoroutine") = false) (hb : fn.body.isSome = true) (xs : Array Value) (w : World) : (callFunc f xs).run P w = .ok (.enter f xs) w := by
  have h1 : fn.name ≠ "runtime.NumGoroutine" := by simpa using hname
  obtain ⟨c, hb⟩ := Option.isSome_iff_exists.1 hb
  simp [callFunc, hf, h1, hb]
theorem use_enter {n : Nat} (h1 : 1 ≤ n) (h2 : n ≤ 13) (xs : Array Value) (w : World) : (callFunc (useF n) xs).run Tryz.prog w = .ok (.enter (useF n) xs) w := by
  have hn : n = 1 ∨ n = 2 ∨ n = 3 ∨ n = 4 ∨ n = 5 ∨ n = 6 ∨ n = 7 ∨ n = 8 ∨ n = 9 ∨ n = 10 ∨ n = 11 ∨ n = 12 ∨ n = 13 := by omega
  rcases hn with rfl | rfl | rfl | rfl | rfl | rfl | rfl | rfl | rfl | rfl | rfl | rfl | rfl
  · exact enters Tryz.func73 (by kernel_rfl) (by kernel_rfl) xs w
  · exact enters Tryz.func74 (by kernel_rfl) (by kernel_rfl) xs w
  · exact enters Tryz.func75 (by kernel_rfl) (by kernel_rfl) xs w
  · exact enters Tryz.func76 (by kernel_rfl) (by kernel_rfl) xs w
  · exact enters Tryz.func77 (by kernel_rfl) (by kernel_rfl) xs w
  · exact enters Tryz.func78 (by kernel_rfl) (by kernel_rfl) xs w
  · exact enters Tryz.func79 (by kernel_rfl) (by kernel_rfl) xs w
  · exact enters Tryz.func80 (by kernel_rfl) (by kernel_rfl) xs w
  · exact enters Tryz.func81 (by kernel_rfl) (by kernel_rfl) xs w
  · exact enters Tryz.func82 (by kernel_rfl) (by kernel_rfl) xs w
  · exact enters Tryz.func83 (by kernel_rfl) (by kernel_rfl) xs w
  · exact enters Tryz.func84 (by kernel_rfl) (by kernel_rfl) xs w
  · exact enters Tryz.func85 (by kernel_rfl) (by kernel_rfl) xs w
def RetChk (m : MG) (w : World) (e : Ending) (w' : World) : Prop := Below w.heap.size w w' ∧ ((e = .returned (.int .i64 0) ∧ useOf m.x.kind ≠ 0 ∧ Bare (zM (useOf m.x.kind) m).x (zM (useOf m.x.kind) m).es.length) ∨ (e = .returned (.int .i64 2) ∧ ¬ (useOf m.x.kind ≠ 0 ∧ Bare (zM (useOf m.x.kind) m).x (zM (useOf m.x.kind) m).es.length)))
set_option maxRecDepth 100000 in
set_option maxHeartbeats 16000000 in
theorem Check_any (m : MG) (w : World) (hO : Hid (MsgOk m.x)) (hE : m.es.length ≤ 1048576) : Calls Tryz.prog 11 #[.agg (mgCs m)] w (RetChk m w) := by
  rcases useOf_cases m.x.kind with ⟨hu, hno⟩ | ⟨h1, h2, hwf, hat, hhas⟩
  · obtain ⟨hat, hhas⟩ := look_no _ hno
    have hwf : (Lit.int .i64 m.x.kind).wf = true := wf_i64 hO.out.kind
    have HU := Lh hu
    clear hno hu
    go_enter Tryz.func11, Tryz.ntmps11
    go_upto_region 1 with fail
    refine wp_region_late (S0 := fun w' => Hid (Blk w' w.heap.size 38 (mgCs m))) (S := fun w' => Hid (Blk w' w.heap.size 38 (mgCs m))) 8 9 (by kernel_rfl) rfl ⟨Lh (Blk.new w _ _), Lh (Blk.new w _ _)⟩ (fun wd hwd hH => ?_)
    have HB := Lh (show Below w.heap.size w wd from by rw [hwd]; exact ((Below.refl _ _).alloc (Nat.le_refl _) _).drew)
    have HG := Lh (show w.heap.size < wd.heap.size from by rw [hwd]; simp)
    clear hwd
    refine wpAnyT_stay 1 (v := ?_) rfl (by kernel_rfl) (fun _ _ _ h => h) (Or.inl ⟨by rfl, ?_⟩) ⟨hH.1, fun _ => hH.2⟩ ?_
    rotate_left
    · (intro wx hx; clear hx; go_simp <;> with_reducible rfl)
    try simp only [Act.put, pA9, pZ9, pS9]
    refine wpAnyT_stay 2 (v := ?_) rfl (by kernel_rfl) (fun _ _ _ h => h) (Or.inl ⟨by rfl, ?_⟩) ⟨hH.1, fun _ => hH.2⟩ ?_
    rotate_left
    · (intro wx hx; have c0 : wx.cell? ⟨w.heap.size, 0, none⟩ = some (.int .i64 m.x.kind) := hx.out.cell 0; clear hx; go_simp <;> with_reducible rfl)
    try simp only [Act.put, pA9, pZ9, pS9]
    refine wpAnyT_one 0 rfl (by kernel_rfl) (fun K hQ => ?_)
    rw [if_pos (by rfl)]
    go_simp
    go_at_call 33
    refine (uses_any wd).mono ?_
    rintro ev w2 ⟨rfl, hm, hb⟩
    have HM := Lh hm
    have HB2 := Lh (HB.out.trans (hb.mono (Nat.le_of_lt HG.out)))
    have HK := Lh (hH.1.out.below hb HG.out)
    refine hQ.out _ _ ⟨HK, HK⟩ (fun hH1 => ?_)
    clear hQ K hb hm
    try simp only [Act.put, pA9, pZ9, pS9]
    refine wpAnyT_one 3 rfl (by kernel_rfl) (fun K hQ => ?_)
    rw [if_pos (by rfl)]
    have hl := look_none HM.out m.x.kind hwf hat hhas
    go_simp
    clear hl
    refine hQ.out _ _ ⟨HK, HK⟩ (fun hH2 => ?_)
    clear hQ K
    try simp only [Act.put, pA9, pZ9, pS9]
    refine wpAnyT_one 4 rfl (by kernel_rfl) (fun K hQ => ?_)
    rw [if_pos (by rfl)]
    go_simp
    refine hQ.out _ _ ⟨HK, HK⟩ (fun hH2 => ?_)
    clear hQ K
    try simp only [Act.put, pA9, pZ9, pS9]
    refine wpAnyT_stay 5 (v := ?_) rfl (by kernel_rfl) (fun _ _ _ h => h) (Or.inl ⟨by rfl, ?_⟩) ⟨hH2.1, fun _ => hH2.2⟩ ?_
    rotate_left
    · (intro wx hx; clear hx; go_simp <;> with_reducible rfl)
    try simp only [Act.put, pA9, pZ9, pS9]
    refine wpAnyT_stay 6 (v := ?_) rfl (by kernel_rfl) (fun _ _ _ h => h) (Or.inl ⟨by rfl, ?_⟩) ⟨hH2.1, fun _ => hH2.2⟩ ?_
    rotate_left
    · (intro wx hx; clear hx; go_simp <;> with_reducible rfl)
    try simp only [Act.put, pA9, pZ9, pS9]
    refine wpAnyT_one 7 rfl (by kernel_rfl) (fun K hQ => ?_)
    rw [if_pos (by rfl)]
    go_simp
    refine hQ.out _ _ ⟨HK, HK⟩ (fun hH2 => ?_)
    clear hQ K
    try simp only [Act.put, pA9, pZ9, pS9]
    refine wpAnyT_last 8 rfl (by kernel_rfl) (by decide) (fun K hQ => ?_)
    rw [if_pos (by rfl)]
    go_simp
    refine hQ.out _ _ HK (fun hH2 => ?_)
    clear hQ K
    try simp only [Act.put, pA9, pZ9, pS9]
    refine wpAnyT_done (by kernel_rfl) ?_ _
    clear hH hH1 hH2
    go_wp2
    go_ret
    exact ⟨HB2.out, .inr ⟨rfl, fun h => h.1 HU.out⟩⟩
  · obtain ⟨n, en⟩ : ∃ n, useOf m.x.kind = n := ⟨_, rfl⟩
    rw [en] at h1 h2 hat
    have HEN := Lh en
    obtain ⟨m2, em2⟩ : ∃ m2, zM n m = m2 := ⟨_, rfl⟩
    have hok2 : MsgOk m2.x := by rw [← em2]; exact zM_ok h1 h2 hO.out
    have hes2 : m2.es.length ≤ 1048576 := by rw [← em2]; exact Nat.le_trans (zM_es h1 h2 m) hE
    obtain ⟨r, hr1, hr2⟩ := neq_plain m2.x m2.es.length hok2 hes2
    have HUSE := Lh (fun (g : Nat) (W : World) (h : Hid (Blk W g 38 (mgCs m))) => use_all h1 h2 g m W h)
    rw [em2] at HUSE
    have HEM := Lh em2
    have HR1 := Lh hr1
    have hent := use_enter h1 h2
    have HN1 := Lh h1
    have HR2 := Lh hr2
    clear en em2 hok2 hes2 hr1 hr2 h1 h2
    go_enter Tryz.func11, Tryz.ntmps11
    go_upto_region 1 with fail
    refine wp_region_late (S0 := fun w' => Hid (Blk w' w.heap.size 38 (mgCs m))) (S := fun w' => Hid (Blk w' w.heap.size 38 (mgCs m))) 8 9 (by kernel_rfl) rfl ⟨Lh (Blk.new w _ _), Lh (Blk.new w _ _)⟩ (fun wd hwd hH => ?_)
    have HB := Lh (show Below w.heap.size w wd from by rw [hwd]; exact ((Below.refl _ _).alloc (Nat.le_refl _) _).drew)
    have HG := Lh (show w.heap.size < wd.heap.size from by rw [hwd]; simp)
    clear hwd
    refine wpAnyT_stay 1 (v := ?_) rfl (by kernel_rfl) (fun _ _ _ h => h) (Or.inl ⟨by rfl, ?_⟩) ⟨hH.1, fun _ => hH.2⟩ ?_
    rotate_left
    · (intro wx hx; clear hx; go_simp <;> with_reducible rfl)
    try simp only [Act.put, pA9, pZ9, pS9]
    refine wpAnyT_stay 2 (v := ?_) rfl (by kernel_rfl) (fun _ _ _ h => h) (Or.inl ⟨by rfl, ?_⟩) ⟨hH.1, fun _ => hH.2⟩ ?_
    rotate_left
    · (intro wx hx; have c0 : wx.cell? ⟨w.heap.size, 0, none⟩ = some (.int .i64 m.x.kind) := hx.out.cell 0; clear hx; go_simp <;> with_reducible rfl)
    try simp only [Act.put, pA9, pZ9, pS9]
    refine wpAnyT_one 0 rfl (by kernel_rfl) (fun K hQ => ?_)
    rw [if_pos (by rfl)]
    go_simp
    go_at_call 33
    refine (uses_any wd).mono ?_
    rintro ev w2 ⟨rfl, hm, hb⟩
    have HM := Lh hm
    have HB2 := Lh (HB.out.trans (hb.mono (Nat.le_of_lt HG.out)))
    have HK := Lh (hH.1.out.below hb HG.out)
    refine hQ.out _ _ ⟨HK, HK⟩ (fun hH1 => ?_)
    clear hQ K hb hm
    try simp only [Act.put, pA9, pZ9, pS9]
    refine wpAnyT_one 3 rfl (by kernel_rfl) (fun K hQ => ?_)
    rw [if_pos (by rfl)]
    have hl := look_use HM.out m.x.kind hwf _ hat hhas
    go_simp
    clear hl
    refine hQ.out _ _ ⟨HK, HK⟩ (fun hH2 => ?_)
    clear hQ K
    try simp only [Act.put, pA9, pZ9, pS9]
    refine wpAnyT_one 4 rfl (by kernel_rfl) (fun K hQ => ?_)
    rw [if_pos (by rfl)]
    go_simp
    refine hQ.out _ _ ⟨HK, HK⟩ (fun hH2 => ?_)
    clear hQ K
    try simp only [Act.put, pA9, pZ9, pS9]
    refine wpAnyT_stay 5 (v := ?_) rfl (by kernel_rfl) (fun _ _ _ h => h) (Or.inl ⟨by rfl, ?_⟩) ⟨hH2.1, fun _ => hH2.2⟩ ?_
    rotate_left
    · (intro wx hx; clear hx; go_simp <;> with_reducible rfl)
    try simp only [Act.put, pA9, pZ9, pS9]
    refine wpAnyT_stay 6 (v := ?_) rfl (by kernel_rfl) (fun _ _ _ h => h) (Or.inl ⟨by rfl, ?_⟩) ⟨hH2.1, fun _ => hH2.2⟩ ?_
    rotate_left
    · (intro wx hx; clear hx; go_simp <;> with_reducible rfl)
    try simp only [Act.put, pA9, pZ9, pS9]
    refine wpAnyT_one 7 rfl (by kernel_rfl) (fun K hQ => ?_)
    rw [if_pos (by rfl)]
    go_simp
    refine hQ.out _ _ ⟨HK, HK⟩ (fun hH2 => ?_)
    clear hQ K
    try simp only [Act.put, pA9, pZ9, pS9]
    refine wpAnyT_last 8 rfl (by kernel_rfl) (by decide) (fun K hQ => ?_)
    rw [if_pos (by rfl)]
    go_simp
    refine hQ.out _ _ HK (fun hH2 => ?_)
    clear hQ K
    try simp only [Act.put, pA9, pZ9, pS9]
    refine wpAnyT_done (by kernel_rfl) ?_ _
    clear hH hH1 hH2
    go_upto_region 6 with (first
      | (refine (HUSE.out w.heap.size w2 HK).mono ?_; rintro ev w3 ⟨rfl, hK3, hO3⟩
         have HB3 := Lh (HB2.out.trans (hO3.below (Nat.le_refl _)))
         clear hO3 HK hH2
         have c3 : w3.cell? ⟨w.heap.size, 3, none⟩ = some (.int .u64 (m2.x.term : Int)) := hK3.cell 3
         have c4 : w3.cell? ⟨w.heap.size, 4, none⟩ = some (.int .u64 (m2.x.index : Int)) := hK3.cell 4
         have c5 : w3.cell? ⟨w.heap.size, 5, none⟩ = some (.int .u64 (m2.x.logTerm : Int)) := hK3.cell 5
         have c6 : w3.cell? ⟨w.heap.size, 6, none⟩ = some (.int .u64 (m2.x.commit : Int)) := hK3.cell 6
         have c7 : w3.cell? ⟨w.heap.size, 7, none⟩ = some (.int .u64 (m2.x.ctx : Int)) := hK3.cell 7
         have c8 : w3.cell? ⟨w.heap.size, 8, none⟩ = some (.bool m2.x.okf) := hK3.cell 8
         have c9 : w3.cell? ⟨w.heap.size, 9, none⟩ = some (.bool m2.x.force) := hK3.cell 9
         have c10 : w3.cell? ⟨w.heap.size, 10, none⟩ = some (.slice m2.Ae m2.es.length m2.ce) := hK3.cell 10
         have c11 : w3.cell? ⟨w.heap.size, 11, none⟩ = some (.slice m2.Av m2.x.vot.length m2.cv) := hK3.cell 11
         have c12 : w3.cell? ⟨w.heap.size, 12, none⟩ = some (.slice m2.Al m2.x.lea.length m2.cl) := hK3.cell 12
         have c13 : w3.cell? ⟨w.heap.size, 13, none⟩ = some (.int .u64 (m2.x.head.id.ver : Int)) := hK3.cell 13
         have c14 : w3.cell? ⟨w.heap.size, 14, none⟩ = some (.int .i64 m2.x.head.id.idx) := hK3.cell 14
         have c15 : w3.cell? ⟨w.heap.size, 15, none⟩ = some (.int .u64 (m2.x.head.id.ep : Int)) := hK3.cell 15
         have c16 : w3.cell? ⟨w.heap.size, 16, none⟩ = some (.int .i64 m2.x.head.k) := hK3.cell 16
         have c17 : w3.cell? ⟨w.heap.size, 17, none⟩ = some (.int .i64 m2.x.head.n) := hK3.cell 17
         have c18 : w3.cell? ⟨w.heap.size, 18, none⟩ = some (.int .i64 m2.x.head.size) := hK3.cell 18
         have c19 : w3.cell? ⟨w.heap.size, 19, none⟩ = some (.int .u32 (m2.x.head.sum : Int)) := hK3.cell 19
         have c20 : w3.cell? ⟨w.heap.size, 20, none⟩ = some (.slice m2.Ad m2.x.data.length m2.cd) := hK3.cell 20
         have c21 : w3.cell? ⟨w.heap.size, 21, none⟩ = some (.int .u64 (m2.x.client : Int)) := hK3.cell 21
         have c22 : w3.cell? ⟨w.heap.size, 22, none⟩ = some (.int .u64 (m2.x.seq : Int)) := hK3.cell 22
         have c23 : w3.cell? ⟨w.heap.size, 23, none⟩ = some (.int .i64 m2.x.op) := hK3.cell 23
         have c24 : w3.cell? ⟨w.heap.size, 24, none⟩ = some (.string (strOf m2.x.key)) := hK3.cell 24
         have c25 : w3.cell? ⟨w.heap.size, 25, none⟩ = some (.int .i64 m2.x.code) := hK3.cell 25
         have c26 : w3.cell? ⟨w.heap.size, 26, none⟩ = some (.slice m2.An m2.x.names.length m2.cn) := hK3.cell 26
         clear hK3)
      | (refine wpl_store_blk rfl 96 _ _ rfl w3.heap.size 96 (zeroL.toArray) (plainL m2.x m2.es.length).toArray rfl rfl (Blk.new w3 _ _) rfl sizePl rfl ?_; intro w4 HB4 HO4))
    clear c3 c4 c5 c6 c7 c8 c9 c10 c11 c12 c13 c14 c15 c16 c17 c18 c19 c20 c21 c22 c23 c24 c25 c26 hH2
    cases r with
    | true =>
      go_wp2_with (first
        | (refine wpl_load_blk rfl 96 (.tmp 5) rfl w3.heap.size _ (plainL m2.x m2.es.length).toArray _ rfl HB4.out Tryz.underlying96 rfl sizePl ?_)
        | (refine wpl_bin rfl .neq 96 _ (.tmp 62) (.tmp 63) rfl (.bool false) (HR2.out _ _ _) ?_))
      go_ret
      refine ⟨(HB3.out.alloc HB3.out.size _).trans (HO4.out.below HB3.out.size), .inl ⟨rfl, ?_⟩⟩
      rw [HEN.out, HEM.out]
      exact ⟨(by have := HN1.out; omega), HR1.out.1 (by first | exact trivial | exact rfl)⟩
    | false =>
      go_wp2_with (first
        | (refine wpl_load_blk rfl 96 (.tmp 5) rfl w3.heap.size _ (plainL m2.x m2.es.length).toArray _ rfl HB4.out Tryz.underlying96 rfl sizePl ?_)
        | (refine wpl_bin rfl .neq 96 _ (.tmp 62) (.tmp 63) rfl (.bool true) (HR2.out _ _ _) ?_))
      go_ret
      refine ⟨(HB3.out.alloc HB3.out.size _).trans (HO4.out.below HB3.out.size), .inr ⟨rfl, ?_⟩⟩
      rw [HEN.out, HEM.out]
      exact fun h => absurd (HR1.out.2 h.2) (by first | decide | simp)
end Go.Proofs.YtlnneacgllhdhaaGreatDoor
end
