/-
  Frame: what framed bytes are. (printed by gen_wirf6.py); Put of a ping. (printed by gen_wirp1.py). (joined out of WirF6, WirP1 by shake.py)
-/
import Derived.Deep.Cut
import Derived.Handy
import Derived.Test.YtlnneacgllhdhaaGreatDoorWpv25
import Derived.Test.YtlnneacgllhdhaaGreatDoorWpv05
import Derived.Test.YtlnneacgllhdhaaGreatDoorWpv34
import Derived.Test.YtlnneacgllhdhaaGreatDoorWpv21
section
namespace Go.Proofs.YtlnneacgllhdhaaGreatDoor
open Go.RowKit OctMath
set_option linter.unusedVariables false
set_option linter.unusedSimpArgs false
theorem mk_bytes (n : Nat) (hn : n ≤ 140737488355328) (W : World) : (Instr.makeSlice 33 (.int .i64 0) (.int .i64 (n : Int))).run Tryz.prog W = .ok (.slice (some ⟨W.heap.size, 0, none⟩) 0 n) (W.alloc (.cells (madeCells #[.int .u8 0] n) 5)) := make0 n (by omega) W
theorem word_new (z : Nat) (w : World) (hz : z < 4294967296) : Calls Tryz.prog 36 #[.int .u32 (z : Int)] w (fun e w' => e = .returned (.slice (some ⟨w.heap.size, 0, none⟩) 4 4) ∧ Hid (Reads w' w'.heap.size 1 (some ⟨w.heap.size, 0, none⟩) 4 ((wordL z).map bv)) ∧ Below w.heap.size w w') := by
  go_enter Tryz.func36, Tryz.ntmps36
  go_wp2
  go_ret
  obtain ⟨A, n, cap, e, hr, hb, -, -⟩ := word_row w 5 z #[.int .u8 ((z : Int) % 256), .int .u8 ((z : Int) / 256 % 256), .int .u8 ((z : Int) / 65536 % 256), .int .u8 ((z : Int) / 16777216)] (by simp [wordL, bv])
  injection e with e
  injection e with e1 e2 e3
  subst e1 e2 e3
  exact ⟨rfl, hr, hb⟩
def RetFrm (xs : List Nat) (l : Nat) (w : World) (e : Ending) (w' : World) : Prop := Below w.heap.size w w' ∧ if 4194304 < l then e = .returned (.tuple #[.slice none 0 0, .int .i64 60]) else ∃ v, e = .returned (.tuple #[v, .int .i64 0]) ∧ w'.ownsRow w.heap.size 5 1 v (l + 12) ((fr xs).map bv)
set_option maxRecDepth 100000 in
set_option maxHeartbeats 8000000 in
theorem Frame_any (A : Option Addr) (l cap : Nat) (xs : List Nat) (w : World) (hr : Hid (RdB w A l cap xs)) : Calls Tryz.prog 14 #[.slice A l cap] w (RetFrm xs l w) := by
  have hl := hr.out.len
  by_cases hb : 4194304 < l
  · have d1 : decide ((l : Int) > 4194304) = true := decide_eq_true (by omega)
    have d2 : decide (4194304 < l) = true := decide_eq_true hb
    have HB := Lh hb
    clear hb hl
    go_enter Tryz.func14, Tryz.ntmps14
    go_wp2
    go_ret2
    exact ⟨Below.refl _ _, by rw [if_pos HB.out]; rfl⟩
  · have d1 : decide ((l : Int) > 4194304) = false := decide_eq_false (by omega)
    have d2 : decide (4194304 < l) = false := decide_eq_false hb
    have HNB := Lh hb
    have hle : l ≤ 4194304 := by omega
    have HF := Lh (show fr xs = ([] ++ seal_ (wordL l)) ++ seal_ xs from by unfold fr; rw [hl]; rfl)
    have HWB := Lh (wordL_byt' (n := l) hle)
    have hmk : ∀ W : World, (Instr.makeSlice 33 (.int .i64 0) (.int .i64 ((l : Int) + 12))).run Tryz.prog W = .ok (.slice (some ⟨W.heap.size, 0, none⟩) 0 (l + 12)) (W.alloc (.cells (madeCells #[.int .u8 0] (l + 12)) 5)) := fun W => by
      have := mk_bytes (l + 12) (by omega) W
      rw [show ((l + 12 : Nat) : Int) = (l : Int) + 12 from by omega] at this
      exact this
    clear hb hl
    go_enter Tryz.func14, Tryz.ntmps14
    go_upto_region 3 with fail
    refine wp_region_late (S0 := fun _ => True) (S := fun _ => True) 12 13 (by kernel_rfl) rfl ⟨trivial, trivial⟩ (fun wd hwd hH => ?_)
    have ND := Lh (show Below w.heap.size w wd from by rw [hwd]; exact (Below.refl _ _).drew)
    clear hwd
    have hw1 : IntKind.i64.wrap ((l : Int) + 12) = (l : Int) + 12 := by simp only [IntKind.wrap, IntKind.signed, IntKind.bits]; simp; omega
    have hw2 : IntKind.u32.wrap (l : Int) = (l : Int) := by simp only [IntKind.wrap, IntKind.signed, IntKind.bits]; simp; omega
    refine wpAnyT_stay 0 (v := ?_) rfl (by kernel_rfl) (fun _ _ _ h => h) (Or.inl ⟨by rfl, ?_⟩) ⟨hH.1, fun _ => hH.2⟩ ?_
    rotate_left
    · (intro wx hx; clear hx; go_simp <;> with_reducible rfl)
    try simp only [Act.put, pA9, pZ9, pS9]
    refine wpAnyT_stay 1 (v := ?_) rfl (by kernel_rfl) (fun _ _ _ h => h) (Or.inl ⟨by rfl, ?_⟩) ⟨hH.1, fun _ => hH.2⟩ ?_
    rotate_left
    · (intro wx hx; clear hx; go_simp <;> with_reducible rfl)
    try simp only [Act.put, pA9, pZ9, pS9]
    refine wpAnyT_stay 2 (v := ?_) rfl (by kernel_rfl) (fun _ _ _ h => h) (Or.inl ⟨by rfl, ?_⟩) ⟨hH.1, fun _ => hH.2⟩ ?_
    rotate_left
    · (intro wx hx; clear hx; go_simp <;> with_reducible rfl)
    try simp only [Act.put, pA9, pZ9, pS9]
    refine wpAnyT_stay 4 (v := ?_) rfl (by kernel_rfl) (fun _ _ _ h => h) (Or.inl ⟨by rfl, ?_⟩) ⟨hH.1, fun _ => hH.2⟩ ?_
    rotate_left
    · (intro wx hx; clear hx; go_simp <;> with_reducible rfl)
    try simp only [Act.put, pA9, pZ9, pS9]
    refine wpAnyT_stay 5 (v := ?_) rfl (by kernel_rfl) (fun _ _ _ h => h) (Or.inl ⟨by rfl, ?_⟩) ⟨hH.1, fun _ => hH.2⟩ ?_
    rotate_left
    · (intro wx hx; clear hx; go_simp <;> with_reducible rfl)
    try simp only [Act.put, pA9, pZ9, pS9]
    refine wpAnyT_stay 6 (v := ?_) rfl (by kernel_rfl) (fun _ _ _ h => h) (Or.inl ⟨by rfl, ?_⟩) ⟨hH.1, fun _ => hH.2⟩ ?_
    rotate_left
    · (intro wx hx; clear hx; go_simp <;> with_reducible rfl)
    try simp only [Act.put, pA9, pZ9, pS9]
    refine wpAnyT_stay 9 (v := ?_) rfl (by kernel_rfl) (fun _ _ _ h => h) (Or.inl ⟨by rfl, ?_⟩) ⟨hH.1, fun _ => hH.2⟩ ?_
    rotate_left
    · (intro wx hx; clear hx; go_simp <;> with_reducible rfl)
    try simp only [Act.put, pA9, pZ9, pS9]
    refine wpAnyT_two 3 7 rfl rfl (by kernel_rfl) (fun K hQ => ?_) (fun K hQ => ?_)
    · as_aux_lemma =>
      have NX := ND
      rw [if_pos (by rfl)]
      go_simp
      obtain ⟨w1, ew⟩ : ∃ w1, wd.alloc (.cells (madeCells #[.int .u8 0] (l + 12)) 5) = w1 := ⟨_, rfl⟩
      have hb : Below wd.heap.size wd (wd.alloc (.cells (madeCells #[.int .u8 0] (l + 12)) 5)) := (Below.refl _ _).alloc (Nat.le_refl _) _
      have ho : (wd.alloc (.cells (madeCells #[.int .u8 0] (l + 12)) 5)).ownsRow w.heap.size 5 1 (.slice (some ⟨wd.heap.size, 0, none⟩) 0 (l + 12)) 0 [] := World.ownsRow_made wd _ _ (by have := NX.out.size; omega) (by unfold maxLen; omega) (by rw [size_madeCells, Nat.mul_one])
      rw [ew] at hb ho ⊢
      have HO := Lh ho
      have NX1 := Lh (NX.out.trans (hb.mono NX.out.size))
      have HG := Lh (show wd.heap.size < w1.heap.size from by rw [← ew]; simp)
      refine hQ.out _ _ ⟨trivial, trivial⟩ (fun hH1 => ?_)
      clear hQ K hb ho ew
      try simp only [Act.put, pA9, pZ9, pS9]
      refine wpAnyT_one 7 rfl (by kernel_rfl) (fun K hQ => ?_)
      rw [if_pos (by rfl)]
      go_simp
      go_at_call 36
      refine (word_new l w1 (by omega)).mono ?_
      rintro ev w2 ⟨rfl, r3, hb⟩
      have NX2 := Lh (NX1.out.trans (hb.mono NX1.out.size))
      have HO := Lh (own_below HO.out hb)
      have HNE := Lh (show 0 < 4 → ∀ ad, (some ⟨w1.heap.size, 0, none⟩ : Option Addr) = some ad → some ad.block ≠ (Value.slice (some ⟨wd.heap.size, 0, none⟩) 0 (l + 12)).ownBlock from fun h0 ad e e2 => by injection e with e; rw [← e] at e2; simp only [Value.ownBlock, Option.map_some, Option.some.injEq] at e2; have := HG.out; omega)
      have R3 := r3
      refine hQ.out _ _ ⟨trivial, trivial⟩ (fun hH2 => ?_)
      clear hQ K hb
      try simp only [Act.put, pA9, pZ9, pS9]
      refine wpAnyT_one 8 rfl (by kernel_rfl) (fun K hQ => ?_)
      rw [if_pos (by rfl)]
      go_simp
      go_at_call 35
      refine (sealed_any w.heap.size w (some ⟨wd.heap.size, 0, none⟩) 0 (l + 12) [] (some ⟨w1.heap.size, 0, none⟩) 4 4 (wordL l) w2 HO R3 HNE NX2 (Lh NX2.out.size) HWB.out (by omega)).mono ?_
      rintro ev w3 ⟨v3, rfl, ho3, hb3, hz3⟩
      obtain ⟨A5, c5, rfl, -, -⟩ := own_slice ho3
      have HO3 := Lh ho3
      have HB3 := Lh hb3
      have HZ3 := Lh hz3
      refine hQ.out _ _ ⟨trivial, trivial⟩ (fun hH3 => ?_)
      clear hQ K hb3 hz3 ho3
      try simp only [Act.put, pA9, pZ9, pS9]
      refine wpAnyT_one 10 rfl (by kernel_rfl) (fun K hQ => ?_)
      rw [if_pos (by rfl)]
      go_simp
      go_at_call 35
      refine (sealed_any w.heap.size w A5 _ c5 _ A l cap xs w3 HO3 (Lh ((hr.out.1.below HB3.out).more HZ3.out)) (Lh (fun h0 ad e e2 => by obtain ⟨ad1, e1, h1, -⟩ := hr.out.1.2 h0; rw [e] at e1; injection e1 with e1; subst e1; have := (HO3.out.lt _ e2.symm).1; omega)) HB3 HZ3 hr.out.2.1 (by omega)).mono ?_
      rintro ev w4 ⟨v4, rfl, ho4, hb4, hz4⟩
      have HO4 := Lh ho4
      have HB4 := Lh hb4
      refine hQ.out _ _ ⟨trivial, trivial⟩ (fun hH4 => ?_)
      clear hQ K hb4 hz4 ho4
      try simp only [Act.put, pA9, pZ9, pS9]
      refine wpAnyT_one 11 rfl (by kernel_rfl) (fun K hQ => ?_)
      rw [if_pos (by rfl)]
      go_simp
      refine hQ.out _ _ ⟨trivial, trivial⟩ (fun hH5 => ?_)
      clear hQ K
      try simp only [Act.put, pA9, pZ9, pS9]
      refine wpAnyT_last 12 rfl (by kernel_rfl) (by decide) (fun K hQ => ?_)
      rw [if_pos (by rfl)]
      go_simp
      refine hQ.out _ _ trivial (fun hH6 => ?_)
      clear hQ K
      try simp only [Act.put, pA9, pZ9, pS9]
      refine wpAnyT_done (by kernel_rfl) ?_ _
      go_wp2
      go_ret2
      refine ⟨HB4.out, ?_⟩
      rw [if_neg HNB.out]
      refine ⟨v4, rfl, ?_⟩
      rw [HF.out]
      have h4 := HO4.out
      rw [show 0 + 4 + 4 + l + 4 = l + 12 from by omega] at h4
      exact h4
    · as_aux_lemma =>
      have NX := ND
      rw [if_pos (by rfl)]
      go_simp
      go_at_call 36
      refine (word_new l wd (by omega)).mono ?_
      rintro ev w1 ⟨rfl, r3, hb⟩
      have NX := Lh (NX.out.trans (hb.mono NX.out.size))
      have R3 := r3
      refine hQ.out _ _ ⟨trivial, trivial⟩ (fun hH1 => ?_)
      clear hQ K hb
      try simp only [Act.put, pA9, pZ9, pS9]
      refine wpAnyT_one 3 rfl (by kernel_rfl) (fun K hQ => ?_)
      rw [if_pos (by rfl)]
      go_simp
      obtain ⟨w2, ew⟩ : ∃ w2, w1.alloc (.cells (madeCells #[.int .u8 0] (l + 12)) 5) = w2 := ⟨_, rfl⟩
      have hb : Below w1.heap.size w1 (w1.alloc (.cells (madeCells #[.int .u8 0] (l + 12)) 5)) := (Below.refl _ _).alloc (Nat.le_refl _) _
      have ho : (w1.alloc (.cells (madeCells #[.int .u8 0] (l + 12)) 5)).ownsRow w.heap.size 5 1 (.slice (some ⟨w1.heap.size, 0, none⟩) 0 (l + 12)) 0 [] := World.ownsRow_made w1 _ _ (by have := NX.out.size; omega) (by unfold maxLen; omega) (by rw [size_madeCells, Nat.mul_one])
      rw [ew] at hb ho ⊢
      have HO := Lh ho
      have NX2 := Lh (NX.out.trans (hb.mono NX.out.size))
      have HNE := Lh (show 0 < 4 → ∀ ad, (some ⟨wd.heap.size, 0, none⟩ : Option Addr) = some ad → some ad.block ≠ (Value.slice (some ⟨w1.heap.size, 0, none⟩) 0 (l + 12)).ownBlock from fun h0 ad e e2 => by obtain ⟨ad1, e1, h1, -⟩ := R3.out.2 h0; rw [e] at e1; injection e1 with e1; subst e1; simp only [Value.ownBlock, Option.map_some, Option.some.injEq] at e2; omega)
      have r3 := Lh (R3.out.later hb)
      have R3 := r3
      refine hQ.out _ _ ⟨trivial, trivial⟩ (fun hH2 => ?_)
      clear hQ K hb
      try simp only [Act.put, pA9, pZ9, pS9]
      refine wpAnyT_one 8 rfl (by kernel_rfl) (fun K hQ => ?_)
      rw [if_pos (by rfl)]
      go_simp
      go_at_call 35
      refine (sealed_any w.heap.size w (some ⟨w1.heap.size, 0, none⟩) 0 (l + 12) [] (some ⟨wd.heap.size, 0, none⟩) 4 4 (wordL l) w2 HO R3 HNE NX2 (Lh NX2.out.size) HWB.out (by omega)).mono ?_
      rintro ev w3 ⟨v3, rfl, ho3, hb3, hz3⟩
      obtain ⟨A5, c5, rfl, -, -⟩ := own_slice ho3
      have HO3 := Lh ho3
      have HB3 := Lh hb3
      have HZ3 := Lh hz3
      refine hQ.out _ _ ⟨trivial, trivial⟩ (fun hH3 => ?_)
      clear hQ K hb3 hz3 ho3
      try simp only [Act.put, pA9, pZ9, pS9]
      refine wpAnyT_one 10 rfl (by kernel_rfl) (fun K hQ => ?_)
      rw [if_pos (by rfl)]
      go_simp
      go_at_call 35
      refine (sealed_any w.heap.size w A5 _ c5 _ A l cap xs w3 HO3 (Lh ((hr.out.1.below HB3.out).more HZ3.out)) (Lh (fun h0 ad e e2 => by obtain ⟨ad1, e1, h1, -⟩ := hr.out.1.2 h0; rw [e] at e1; injection e1 with e1; subst e1; have := (HO3.out.lt _ e2.symm).1; omega)) HB3 HZ3 hr.out.2.1 (by omega)).mono ?_
      rintro ev w4 ⟨v4, rfl, ho4, hb4, hz4⟩
      have HO4 := Lh ho4
      have HB4 := Lh hb4
      refine hQ.out _ _ ⟨trivial, trivial⟩ (fun hH4 => ?_)
      clear hQ K hb4 hz4 ho4
      try simp only [Act.put, pA9, pZ9, pS9]
      refine wpAnyT_one 11 rfl (by kernel_rfl) (fun K hQ => ?_)
      rw [if_pos (by rfl)]
      go_simp
      refine hQ.out _ _ ⟨trivial, trivial⟩ (fun hH5 => ?_)
      clear hQ K
      try simp only [Act.put, pA9, pZ9, pS9]
      refine wpAnyT_last 12 rfl (by kernel_rfl) (by decide) (fun K hQ => ?_)
      rw [if_pos (by rfl)]
      go_simp
      refine hQ.out _ _ trivial (fun hH6 => ?_)
      clear hQ K
      try simp only [Act.put, pA9, pZ9, pS9]
      refine wpAnyT_done (by kernel_rfl) ?_ _
      go_wp2
      go_ret2
      refine ⟨HB4.out, ?_⟩
      rw [if_neg HNB.out]
      refine ⟨v4, rfl, ?_⟩
      rw [HF.out]
      have h4 := HO4.out
      rw [show 0 + 4 + 4 + l + 4 = l + 12 from by omega] at h4
      exact h4
end Go.Proofs.YtlnneacgllhdhaaGreatDoor
end
section
namespace Go.Proofs.YtlnneacgllhdhaaGreatDoor
open Go.RowKit OctMath
set_option linter.unusedVariables false
set_option linter.unusedSimpArgs false
def pingB : List Nat := [36, 2, 4, 0, 0, 0, 0, 3, 0, 0, 0, 0, 0, 0, 0, 0, 0, 0, 0, 0, 0, 0, 0, 0, 0, 0, 0]
section
variable (A : Option Addr) (cap l : Nat) (xs : List Nat) (w : World) (hr : Hid (Reads w w.heap.size 1 A l (xs.map bv))) (hl : xs.length ≤ 1000)
include hr hl
theorem pgL : l ≤ 1000 := by have := reads_len hr.out; omega
theorem pgNum (n : Nat) (hn : n < 128) : Calls Tryz.prog 24 #[.slice A l cap, .int .u64 n] w (RetB (xs ++ [n]) w) := by
  have h := putnumB A cap l xs w hr n (by omega) (by have := pgL A l xs w hr hl; omega)
  rwa [putN_small hn] at h
theorem pgInt (n : Int) (m : Nat) (hz : zz n = m) (hm : m < 128) (n1 : -9223372036854775808 ≤ n) (n2 : n ≤ 9223372036854775807) : Calls Tryz.prog 23 #[.slice A l cap, .int .i64 n] w (RetB (xs ++ [m]) w) := by
  have h := putintB A cap l xs w hr n n1 n2 (by have := pgL A l xs w hr hl; omega)
  rwa [hz, putN_small hm] at h
theorem pgFlag : Calls Tryz.prog 25 #[.slice A l cap, .bool false] w (RetB (xs ++ [0]) w) := putflagB A cap l xs w hr false (by have := pgL A l xs w hr hl; omega)
theorem pgBytes (B : Option Addr) (cap' : Nat) (hr' : Hid (Reads w w.heap.size 1 B 0 (([] : List Nat).map bv))) : Calls Tryz.prog 29 #[.slice A l cap, .slice B 0 cap'] w (RetB (xs ++ [0]) w) := by
  have h := putbytesB A cap l xs w hr B cap' 0 [] hr' (by have := pgL A l xs w hr hl; omega)
  rwa [putN_small (by decide)] at h
theorem pgConf : Calls Tryz.prog 27 #[.slice A l cap, .agg #[.slice none 0 0, .slice none 0 0]] w (RetO (xs ++ [0, 0]) w) := by
  have h := put_conf A l cap xs none 0 none 0 ([], []) w hr (Lh (Reads.none_)) (Lh (Reads.none_)) ⟨⟨by simp, by simp⟩, ⟨by simp, by simp⟩⟩ (by have := pgL A l xs w hr hl; omega)
  have e : pConf ([], []) = [0, 0] := by simp [pConf, pList, putN_small]
  rwa [e] at h
theorem pgHead : Calls Tryz.prog 28 #[.slice A l cap, .agg #[.int .u64 0, .int .i64 0, .int .u64 0, .int .i64 0, .int .i64 0, .int .i64 0, .int .u32 0]] w (RetO (xs ++ [0, 0, 0, 0, 0, 0, 0]) w) := by
  have h := put_header A l cap xs ⟨⟨0, 0, 0⟩, 0, 0, 0, 0⟩ w hr ⟨by decide, ⟨by decide, by decide⟩, by decide, ⟨by decide, by decide⟩, ⟨by decide, by decide⟩, ⟨by decide, by decide⟩, by decide⟩ (by have := pgL A l xs w hr hl; omega)
  have e : pHd ⟨⟨0, 0, 0⟩, 0, 0, 0, 0⟩ = [0, 0, 0, 0, 0, 0, 0] := by simp [pHd, pId, pInt, zz, putN_small]
  rwa [e] at h
end
set_option maxRecDepth 100000 in
set_option maxHeartbeats 8000000 in
theorem put_ping (w : World) : Calls Tryz.prog 9 #[.agg (pingCs 0 3)] w (RetB pingB w) := by
  obtain ⟨w0, ew⟩ : ∃ w0, w.alloc (.cells (pingCs 0 3) 38) = w0 := ⟨_, rfl⟩
  have hx : Blk (w.alloc (.cells (pingCs 0 3) 38)) w.heap.size 38 (pingCs 0 3) := Blk.new w _ _
  have hb : Below w.heap.size w (w.alloc (.cells (pingCs 0 3) 38)) := (Below.refl _ _).alloc (Nat.le_refl _) _
  rw [ew] at hx hb
  have B0 := Lh hx
  have K0 := Lh hb
  have R0 : Hid (Reads w0 w0.heap.size 1 none 0 (([] : List Nat).map bv)) := Lh (Reads.none_)
  clear hx hb
  have c0 : w0.cell? ⟨w.heap.size, 0, none⟩ = some (.int .i64 18) := B0.out.cell 0
  go_enter Tryz.func9, Tryz.ntmps9
  go_wp2_with (rw [ew])
  refine (pgInt none 0 0 [] w0 R0 (by decide) 18 36 (by decide) (by decide) (by decide) (by decide)).mono ?_
  rintro e w1 ⟨A1, l1, n1, rfl, R1, hb, -, -⟩
  have B1 := Lh (B0.out.below hb B0.out.lt)
  have K1 := Lh (K0.out.trans (hb.mono K0.out.size))
  clear hb B0 K0 c0 R0 ew
  have c1 : w1.cell? ⟨w.heap.size, 1, none⟩ = some (.int .i64 1) := B1.out.cell 1
  go_wp2_with fail
  refine (pgInt _ _ _ [36] w1 R1 (by decide) 1 2 (by decide) (by decide) (by decide) (by decide)).mono ?_
  rintro e w2 ⟨A2, l2, n2, rfl, R2, hb, -, -⟩
  have B2 := Lh (B1.out.below hb B1.out.lt)
  have K2 := Lh (K1.out.trans (hb.mono K1.out.size))
  clear hb B1 K1 c1 R1
  have c2 : w2.cell? ⟨w.heap.size, 2, none⟩ = some (.int .i64 2) := B2.out.cell 2
  go_wp2_with fail
  refine (pgInt _ _ _ [36, 2] w2 R2 (by decide) 2 4 (by decide) (by decide) (by decide) (by decide)).mono ?_
  rintro e w3 ⟨A3, l3, n3, rfl, R3, hb, -, -⟩
  have B3 := Lh (B2.out.below hb B2.out.lt)
  have K3 := Lh (K2.out.trans (hb.mono K2.out.size))
  clear hb B2 K2 c2 R2
  have c3 : w3.cell? ⟨w.heap.size, 3, none⟩ = some (.int .u64 0) := B3.out.cell 3
  have c4 : w3.cell? ⟨w.heap.size, 4, none⟩ = some (.int .u64 0) := B3.out.cell 4
  have c5 : w3.cell? ⟨w.heap.size, 5, none⟩ = some (.int .u64 0) := B3.out.cell 5
  have c6 : w3.cell? ⟨w.heap.size, 6, none⟩ = some (.int .u64 0) := B3.out.cell 6
  have c7 : w3.cell? ⟨w.heap.size, 7, none⟩ = some (.int .u64 3) := B3.out.cell 7
  go_wp2_with fail
  have ix0 : ∀ W, (Instr.index 68 (.agg #[.int .u64 0, .int .u64 0, .int .u64 0, .int .u64 0, .int .u64 3]) (.int .i64 0)).run Tryz.prog W = .ok (.int .u64 0) W := fun W => by kernel_rfl
  have ix1 : ∀ W, (Instr.index 68 (.agg #[.int .u64 0, .int .u64 0, .int .u64 0, .int .u64 0, .int .u64 3]) (.int .i64 1)).run Tryz.prog W = .ok (.int .u64 0) W := fun W => by kernel_rfl
  have ix2 : ∀ W, (Instr.index 68 (.agg #[.int .u64 0, .int .u64 0, .int .u64 0, .int .u64 0, .int .u64 3]) (.int .i64 2)).run Tryz.prog W = .ok (.int .u64 0) W := fun W => by kernel_rfl
  have ix3 : ∀ W, (Instr.index 68 (.agg #[.int .u64 0, .int .u64 0, .int .u64 0, .int .u64 0, .int .u64 3]) (.int .i64 3)).run Tryz.prog W = .ok (.int .u64 0) W := fun W => by kernel_rfl
  have ix4 : ∀ W, (Instr.index 68 (.agg #[.int .u64 0, .int .u64 0, .int .u64 0, .int .u64 0, .int .u64 3]) (.int .i64 4)).run Tryz.prog W = .ok (.int .u64 3) W := fun W => by kernel_rfl
  refine wp_loop_rounds 7 ?_
  rw [rounds_succ]
  go_wp2_with fail
  refine (pgNum _ _ _ [36, 2, 4] w3 R3 (by decide) 0 (by decide)).mono ?_
  rintro e w4 ⟨A4, l4, n4, rfl, R4, hb, -, -⟩
  have B4 := Lh (B3.out.below hb B3.out.lt)
  have K4 := Lh (K3.out.trans (hb.mono K3.out.size))
  clear hb B3 K3 R3
  go_wp2_with fail
  rw [rounds_succ]
  go_wp2_with fail
  refine (pgNum _ _ _ [36, 2, 4, 0] w4 R4 (by decide) 0 (by decide)).mono ?_
  rintro e w5 ⟨A5, l5, n5, rfl, R5, hb, -, -⟩
  have B5 := Lh (B4.out.below hb B4.out.lt)
  have K5 := Lh (K4.out.trans (hb.mono K4.out.size))
  clear hb B4 K4 R4
  go_wp2_with fail
  rw [rounds_succ]
  go_wp2_with fail
  refine (pgNum _ _ _ [36, 2, 4, 0, 0] w5 R5 (by decide) 0 (by decide)).mono ?_
  rintro e w6 ⟨A6, l6, n6, rfl, R6, hb, -, -⟩
  have B6 := Lh (B5.out.below hb B5.out.lt)
  have K6 := Lh (K5.out.trans (hb.mono K5.out.size))
  clear hb B5 K5 R5
  go_wp2_with fail
  rw [rounds_succ]
  go_wp2_with fail
  refine (pgNum _ _ _ [36, 2, 4, 0, 0, 0] w6 R6 (by decide) 0 (by decide)).mono ?_
  rintro e w7 ⟨A7, l7, n7, rfl, R7, hb, -, -⟩
  have B7 := Lh (B6.out.below hb B6.out.lt)
  have K7 := Lh (K6.out.trans (hb.mono K6.out.size))
  clear hb B6 K6 R6
  go_wp2_with fail
  rw [rounds_succ]
  go_wp2_with fail
  refine (pgNum _ _ _ [36, 2, 4, 0, 0, 0, 0] w7 R7 (by decide) 3 (by decide)).mono ?_
  rintro e w8 ⟨A8, l8, n8, rfl, R8, hb, -, -⟩
  have B8 := Lh (B7.out.below hb B7.out.lt)
  have K8 := Lh (K7.out.trans (hb.mono K7.out.size))
  clear hb B7 K7 c3 c4 c5 c6 c7 R7
  have c8 : w8.cell? ⟨w.heap.size, 8, none⟩ = some (.bool false) := B8.out.cell 8
  go_wp2_with fail
  rw [rounds_succ]
  go_wp2_with fail
  refine (pgFlag _ _ _ [36, 2, 4, 0, 0, 0, 0, 3] w8 R8 (by decide)).mono ?_
  rintro e w9 ⟨A9, l9, n9, rfl, R9, hb, -, -⟩
  have B9 := Lh (B8.out.below hb B8.out.lt)
  have K9 := Lh (K8.out.trans (hb.mono K8.out.size))
  clear hb B8 K8 c8 R8
  have c9 : w9.cell? ⟨w.heap.size, 9, none⟩ = some (.bool false) := B9.out.cell 9
  go_wp2_with fail
  refine (pgFlag _ _ _ [36, 2, 4, 0, 0, 0, 0, 3, 0] w9 R9 (by decide)).mono ?_
  rintro e w10 ⟨A10, l10, n10, rfl, R10, hb, -, -⟩
  have B10 := Lh (B9.out.below hb B9.out.lt)
  have K10 := Lh (K9.out.trans (hb.mono K9.out.size))
  clear hb B9 K9 c9 R9
  have c10 : w10.cell? ⟨w.heap.size, 10, none⟩ = some (.slice none 0 0) := B10.out.cell 10
  go_wp2_with fail
  refine (pgNum _ _ _ [36, 2, 4, 0, 0, 0, 0, 3, 0, 0] w10 R10 (by decide) 0 (by decide)).mono ?_
  rintro e w11 ⟨A11, l11, n11, rfl, R11, hb, -, -⟩
  have B11 := Lh (B10.out.below hb B10.out.lt)
  have K11 := Lh (K10.out.trans (hb.mono K10.out.size))
  clear hb B10 K10 c10 R10
  have c10 : w11.cell? ⟨w.heap.size, 10, none⟩ = some (.slice none 0 0) := B11.out.cell 10
  have c11 : w11.cell? ⟨w.heap.size, 11, none⟩ = some (.slice none 0 0) := B11.out.cell 11
  have c12 : w11.cell? ⟨w.heap.size, 12, none⟩ = some (.slice none 0 0) := B11.out.cell 12
  go_wp2_with fail
  refine wp_loop_rounds 2 ?_
  rw [rounds_succ]
  go_wp2_with fail
  refine (pgConf _ _ _ [36, 2, 4, 0, 0, 0, 0, 3, 0, 0, 0] w11 R11 (by decide)).mono ?_
  rintro e w12 ⟨A12, n12, rfl, r12, hb⟩
  have R12 := r12
  have B12 := Lh (B11.out.below hb B11.out.lt)
  have K12 := Lh (K11.out.trans (hb.mono K11.out.size))
  clear hb B11 K11 c10 c11 c12 R11
  have c13 : w12.cell? ⟨w.heap.size, 13, none⟩ = some (.int .u64 0) := B12.out.cell 13
  have c14 : w12.cell? ⟨w.heap.size, 14, none⟩ = some (.int .i64 0) := B12.out.cell 14
  have c15 : w12.cell? ⟨w.heap.size, 15, none⟩ = some (.int .u64 0) := B12.out.cell 15
  have c16 : w12.cell? ⟨w.heap.size, 16, none⟩ = some (.int .i64 0) := B12.out.cell 16
  have c17 : w12.cell? ⟨w.heap.size, 17, none⟩ = some (.int .i64 0) := B12.out.cell 17
  have c18 : w12.cell? ⟨w.heap.size, 18, none⟩ = some (.int .i64 0) := B12.out.cell 18
  have c19 : w12.cell? ⟨w.heap.size, 19, none⟩ = some (.int .u32 0) := B12.out.cell 19
  go_wp2_with fail
  refine (pgHead _ _ _ [36, 2, 4, 0, 0, 0, 0, 3, 0, 0, 0, 0, 0] w12 R12 (by decide)).mono ?_
  rintro e w13 ⟨A13, n13, rfl, r13, hb⟩
  have R13 := r13
  have B13 := Lh (B12.out.below hb B12.out.lt)
  have K13 := Lh (K12.out.trans (hb.mono K12.out.size))
  clear hb B12 K12 c13 c14 c15 c16 c17 c18 c19 R12
  have c20 : w13.cell? ⟨w.heap.size, 20, none⟩ = some (.slice none 0 0) := B13.out.cell 20
  go_wp2_with fail
  refine (pgBytes _ _ _ [36, 2, 4, 0, 0, 0, 0, 3, 0, 0, 0, 0, 0, 0, 0, 0, 0, 0, 0, 0] w13 R13 (by decide) none 0 (Lh Reads.none_)).mono ?_
  rintro e w14 ⟨A14, l14, n14, rfl, R14, hb, -, -⟩
  have B14 := Lh (B13.out.below hb B13.out.lt)
  have K14 := Lh (K13.out.trans (hb.mono K13.out.size))
  clear hb B13 K13 c20 R13
  have c21 : w14.cell? ⟨w.heap.size, 21, none⟩ = some (.int .u64 0) := B14.out.cell 21
  go_wp2_with fail
  refine (pgNum _ _ _ [36, 2, 4, 0, 0, 0, 0, 3, 0, 0, 0, 0, 0, 0, 0, 0, 0, 0, 0, 0, 0] w14 R14 (by decide) 0 (by decide)).mono ?_
  rintro e w15 ⟨A15, l15, n15, rfl, R15, hb, -, -⟩
  have B15 := Lh (B14.out.below hb B14.out.lt)
  have K15 := Lh (K14.out.trans (hb.mono K14.out.size))
  clear hb B14 K14 c21 R14
  have c22 : w15.cell? ⟨w.heap.size, 22, none⟩ = some (.int .u64 0) := B15.out.cell 22
  go_wp2_with fail
  refine (pgNum _ _ _ [36, 2, 4, 0, 0, 0, 0, 3, 0, 0, 0, 0, 0, 0, 0, 0, 0, 0, 0, 0, 0, 0] w15 R15 (by decide) 0 (by decide)).mono ?_
  rintro e w16 ⟨A16, l16, n16, rfl, R16, hb, -, -⟩
  have B16 := Lh (B15.out.below hb B15.out.lt)
  have K16 := Lh (K15.out.trans (hb.mono K15.out.size))
  clear hb B15 K15 c22 R15
  have c23 : w16.cell? ⟨w.heap.size, 23, none⟩ = some (.int .i64 0) := B16.out.cell 23
  go_wp2_with fail
  refine (pgInt _ _ _ [36, 2, 4, 0, 0, 0, 0, 3, 0, 0, 0, 0, 0, 0, 0, 0, 0, 0, 0, 0, 0, 0, 0] w16 R16 (by decide) 0 0 (by decide) (by decide) (by decide) (by decide)).mono ?_
  rintro e w17 ⟨A17, l17, n17, rfl, R17, hb, -, -⟩
  have B17 := Lh (B16.out.below hb B16.out.lt)
  have K17 := Lh (K16.out.trans (hb.mono K16.out.size))
  clear hb B16 K16 c23 R16
  have c24 : w17.cell? ⟨w.heap.size, 24, none⟩ = some (.string ⟨#[]⟩) := B17.out.cell 24
  skip
  have kc := Lib.run_convert_string_bytes (P := Tryz.prog) w17 9 33 5 ⟨#[]⟩ Tryz.underlying9 Tryz.underlying33 Tryz.underlying5
  have hbx := octs_bel w17 5 ⟨#[]⟩
  have hrx := octs_reads w17 5 ⟨#[]⟩
  have szx : (Lib.bytesWorld w17 5 ⟨#[]⟩).heap.size = w17.heap.size + 1 := Lib.bytesWorld_size w17 5 ⟨#[]⟩
  obtain ⟨gc, hgc⟩ : ∃ gc, grownCap w17 (⟨#[]⟩ : ByteArray).size 0 5 = gc := ⟨_, rfl⟩
  rw [hgc] at kc
  obtain ⟨w18, ewx⟩ : ∃ wx, Lib.bytesWorld w17 5 ⟨#[]⟩ = wx := ⟨_, rfl⟩
  rw [ewx] at kc hbx hrx szx
  have R18 := Lh (R17.out.grow hbx)
  have B18 := Lh (B17.out.below hbx B17.out.lt)
  have K18 := Lh (K17.out.trans (hbx.mono K17.out.size))
  have RX : Hid (Reads w18 w18.heap.size 1 (some ⟨w17.heap.size, 0, none⟩) 0 (([] : List Nat).map bv)) := Lh (hrx.more (by omega))
  simp only [show (⟨#[]⟩ : ByteArray).size = 0 from rfl] at kc
  clear hbx hrx szx ewx hgc R17 B17 K17
  go_wp2_with fail
  refine (pgBytes _ _ _ [36, 2, 4, 0, 0, 0, 0, 3, 0, 0, 0, 0, 0, 0, 0, 0, 0, 0, 0, 0, 0, 0, 0, 0] w18 R18 (by decide) _ _ RX).mono ?_
  rintro e w19 ⟨A19, l19, n19, rfl, R19, hb, -, -⟩
  have B19 := Lh (B18.out.below hb B18.out.lt)
  have K19 := Lh (K18.out.trans (hb.mono K18.out.size))
  clear hb B18 K18 c24 kc RX R18
  have c25 : w19.cell? ⟨w.heap.size, 25, none⟩ = some (.int .i64 0) := B19.out.cell 25
  go_wp2_with fail
  refine (pgInt _ _ _ [36, 2, 4, 0, 0, 0, 0, 3, 0, 0, 0, 0, 0, 0, 0, 0, 0, 0, 0, 0, 0, 0, 0, 0, 0] w19 R19 (by decide) 0 0 (by decide) (by decide) (by decide) (by decide)).mono ?_
  rintro e w20 ⟨A20, l20, n20, rfl, R20, hb, -, -⟩
  have B20 := Lh (B19.out.below hb B19.out.lt)
  have K20 := Lh (K19.out.trans (hb.mono K19.out.size))
  clear hb B19 K19 c25 R19
  have c26 : w20.cell? ⟨w.heap.size, 26, none⟩ = some (.slice none 0 0) := B20.out.cell 26
  go_wp2_with fail
  refine (pgNum _ _ _ [36, 2, 4, 0, 0, 0, 0, 3, 0, 0, 0, 0, 0, 0, 0, 0, 0, 0, 0, 0, 0, 0, 0, 0, 0, 0] w20 R20 (by decide) 0 (by decide)).mono ?_
  rintro e w21 ⟨A21, l21, n21, rfl, R21, hb, le1, le2⟩
  have le21 := And.intro le1 le2
  clear le1 le2
  have B21 := Lh (B20.out.below hb B20.out.lt)
  have K21 := Lh (K20.out.trans (hb.mono K20.out.size))
  clear hb B20 K20 c26 R20
  have c26 : w21.cell? ⟨w.heap.size, 26, none⟩ = some (.slice none 0 0) := B21.out.cell 26
  go_wp2_with fail
  refine wp_loop_rounds 2 ?_
  rw [rounds_succ]
  go_wp2_with fail
  go_ret
  exact ⟨_, _, _, rfl, R21, K21.out, le21.1, le21.2⟩
end Go.Proofs.YtlnneacgllhdhaaGreatDoor
end
