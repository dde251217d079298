/-
  Frame: what framed bytes are. (printed by gen_wirf6.py); ROWS OF ROWS OF BYTES in memory: own ones that grow, ones that are read; the reference's Same. (printed by gen; PLAIN LAW of streams: reading all frames of a stream; frames put one behind the other, cut anywhere; Next's own bytes; All: all frames of a stream. (joined out of WirF6, WirB1, WirAM, WirB2 by shake.py)
-/
import Derived.Deep.Cut
import Derived.Deep.OwnRows
import Derived.Test.YtlnneacgllhdhaaGreatDoorWbk05
import Derived.Test.YtlnneacgllhdhaaGreatDoorWbk03
import Derived.Test.YtlnneacgllhdhaaGreatDoorWbk04
section
namespace Go.Proofs.YtlnneacgllhdhaaGreatDoor
open Go.RowKit OctMath
set_option linter.unusedVariables false
set_option linter.unusedSimpArgs false
theorem mk_bytes (n : Nat) (hn : n ≤ 140737488355328) (W : World) : (Instr.makeSlice 33 (.int .i64 0) (.int .i64 (n : Int))).run Tryz.prog W = .ok (.slice (some ⟨W.heap.size, 0, none⟩) 0 n) (W.alloc (.cells (madeCells #[.int .u8 0] n) 5)) := make0 n (by omega) W
theorem word_new (z : Nat) (w : World) (hz : z < 4294967296) : Calls Tryz.prog 36 #[.int .u32 (z : Int)] w (fun e w' => e = .returned (.slice (some ⟨w.heap.size, 0, none⟩) 4 4) ∧ Hid (Reads w' w'.heap.size 1 (some ⟨w.heap.size, 0, none⟩) 4 ((wordL z).map bv)) ∧ Below w.heap.size w w') := by
  go_enter Tryz.func36, Tryz.ntmps36
  go_wp2
  go_ret
  obtain ⟨A, n, cap, e, hr, hb, -, -⟩ := word_row w 5 z #[.int .u8 ((z : Int) % 256), .int .u8 ((z : Int) / 256 % 256), .int .u8 ((z : Int) / 65536 % 256), .int .u8 ((z : Int) / 16777216)] (by simp [wordL, bv])
  injection e with e
  injection e with e1 e2 e3
  subst e1 e2 e3
  exact ⟨rfl, hr, hb⟩
def RetFrm (xs : List Nat) (l : Nat) (w : World) (e : Ending) (w' : World) : Prop := Below w.heap.size w w' ∧ if 4194304 < l then e = .returned (.tuple #[.slice none 0 0, .int .i64 60]) else ∃ v, e = .returned (.tuple #[v, .int .i64 0]) ∧ w'.ownsRow w.heap.size 5 1 v (l + 12) ((fr xs).map bv)
set_option maxRecDepth 100000 in
set_option maxHeartbeats 8000000 in
theorem Frame_any (A : Option Addr) (l cap : Nat) (xs : List Nat) (w : World) (hr : Hid (RdB w A l cap xs)) : Calls Tryz.prog 14 #[.slice A l cap] w (RetFrm xs l w) := by
  have hl := hr.out.len
  by_cases hb : 4194304 < l
  · have d1 : decide ((l : Int) > 4194304) = true := decide_eq_true (by omega)
    have d2 : decide (4194304 < l) = true := decide_eq_true hb
    have HB := Lib.hid hb
    clear hb hl
    go_enter Tryz.func14, Tryz.ntmps14
    go_wp2
    go_ret2
    exact ⟨Below.refl _ _, by rw [if_pos HB.out]; rfl⟩
  · have d1 : decide ((l : Int) > 4194304) = false := decide_eq_false (by omega)
    have d2 : decide (4194304 < l) = false := decide_eq_false hb
    have HNB := Lib.hid hb
    have hle : l ≤ 4194304 := by omega
    have HF := Lib.hid (show fr xs = ([] ++ seal_ (wordL l)) ++ seal_ xs from by unfold fr; rw [hl]; rfl)
    have HWB := Lib.hid (wordL_byt' (n := l) hle)
    have hmk : ∀ W : World, (Instr.makeSlice 33 (.int .i64 0) (.int .i64 ((l : Int) + 12))).run Tryz.prog W = .ok (.slice (some ⟨W.heap.size, 0, none⟩) 0 (l + 12)) (W.alloc (.cells (madeCells #[.int .u8 0] (l + 12)) 5)) := fun W => by
      have := mk_bytes (l + 12) (by omega) W
      rw [show ((l + 12 : Nat) : Int) = (l : Int) + 12 from by omega] at this
      exact this
    clear hb hl
    go_enter Tryz.func14, Tryz.ntmps14
    go_upto_region 3 with fail
    refine wp_region_late (S0 := fun _ => True) (S := fun _ => True) 12 13 (by kernel_rfl) rfl ⟨trivial, trivial⟩ (fun wd hwd hH => ?_)
    have ND := Lib.hid (show Below w.heap.size w wd from by rw [hwd]; exact (Below.refl _ _).drew)
    clear hwd
    have hw1 : IntKind.i64.wrap ((l : Int) + 12) = (l : Int) + 12 := by simp only [IntKind.wrap, IntKind.signed, IntKind.bits]; simp; omega
    have hw2 : IntKind.u32.wrap (l : Int) = (l : Int) := by simp only [IntKind.wrap, IntKind.signed, IntKind.bits]; simp; omega
    refine wpAnyT_stay 0 (v := ?_) rfl (by kernel_rfl) (fun _ _ _ h => h) (Or.inl ⟨by rfl, ?_⟩) ⟨hH.1, fun _ => hH.2⟩ ?_
    rotate_left
    · (intro wx hx; clear hx; go_simp <;> with_reducible rfl)
    try simp only [Act.put, List.setIfInBounds_toArray, List.set_cons_zero, List.set_cons_succ]
    refine wpAnyT_stay 1 (v := ?_) rfl (by kernel_rfl) (fun _ _ _ h => h) (Or.inl ⟨by rfl, ?_⟩) ⟨hH.1, fun _ => hH.2⟩ ?_
    rotate_left
    · (intro wx hx; clear hx; go_simp <;> with_reducible rfl)
    try simp only [Act.put, List.setIfInBounds_toArray, List.set_cons_zero, List.set_cons_succ]
    refine wpAnyT_stay 2 (v := ?_) rfl (by kernel_rfl) (fun _ _ _ h => h) (Or.inl ⟨by rfl, ?_⟩) ⟨hH.1, fun _ => hH.2⟩ ?_
    rotate_left
    · (intro wx hx; clear hx; go_simp <;> with_reducible rfl)
    try simp only [Act.put, List.setIfInBounds_toArray, List.set_cons_zero, List.set_cons_succ]
    refine wpAnyT_stay 4 (v := ?_) rfl (by kernel_rfl) (fun _ _ _ h => h) (Or.inl ⟨by rfl, ?_⟩) ⟨hH.1, fun _ => hH.2⟩ ?_
    rotate_left
    · (intro wx hx; clear hx; go_simp <;> with_reducible rfl)
    try simp only [Act.put, List.setIfInBounds_toArray, List.set_cons_zero, List.set_cons_succ]
    refine wpAnyT_stay 5 (v := ?_) rfl (by kernel_rfl) (fun _ _ _ h => h) (Or.inl ⟨by rfl, ?_⟩) ⟨hH.1, fun _ => hH.2⟩ ?_
    rotate_left
    · (intro wx hx; clear hx; go_simp <;> with_reducible rfl)
    try simp only [Act.put, List.setIfInBounds_toArray, List.set_cons_zero, List.set_cons_succ]
    refine wpAnyT_stay 6 (v := ?_) rfl (by kernel_rfl) (fun _ _ _ h => h) (Or.inl ⟨by rfl, ?_⟩) ⟨hH.1, fun _ => hH.2⟩ ?_
    rotate_left
    · (intro wx hx; clear hx; go_simp <;> with_reducible rfl)
    try simp only [Act.put, List.setIfInBounds_toArray, List.set_cons_zero, List.set_cons_succ]
    refine wpAnyT_stay 9 (v := ?_) rfl (by kernel_rfl) (fun _ _ _ h => h) (Or.inl ⟨by rfl, ?_⟩) ⟨hH.1, fun _ => hH.2⟩ ?_
    rotate_left
    · (intro wx hx; clear hx; go_simp <;> with_reducible rfl)
    try simp only [Act.put, List.setIfInBounds_toArray, List.set_cons_zero, List.set_cons_succ]
    refine wpAnyT_two 3 7 rfl rfl (by kernel_rfl) (fun K hQ => ?_) (fun K hQ => ?_)
    · as_aux_lemma =>
      have NX := ND
      rw [if_pos (by rfl)]
      go_simp
      obtain ⟨w1, ew⟩ : ∃ w1, wd.alloc (.cells (madeCells #[.int .u8 0] (l + 12)) 5) = w1 := ⟨_, rfl⟩
      have hb : Below wd.heap.size wd (wd.alloc (.cells (madeCells #[.int .u8 0] (l + 12)) 5)) := (Below.refl _ _).alloc (Nat.le_refl _) _
      have ho : (wd.alloc (.cells (madeCells #[.int .u8 0] (l + 12)) 5)).ownsRow w.heap.size 5 1 (.slice (some ⟨wd.heap.size, 0, none⟩) 0 (l + 12)) 0 [] := World.ownsRow_made wd _ _ (by have := NX.out.size; omega) (by unfold maxLen; omega) (by rw [size_madeCells, Nat.mul_one])
      rw [ew] at hb ho ⊢
      have HO := Lib.hid ho
      have NX1 := Lib.hid (NX.out.trans (hb.mono NX.out.size))
      have HG := Lib.hid (show wd.heap.size < w1.heap.size from by rw [← ew]; simp)
      refine hQ.out _ _ ⟨trivial, trivial⟩ (fun hH1 => ?_)
      clear hQ K hb ho ew
      try simp only [Act.put, List.setIfInBounds_toArray, List.set_cons_zero, List.set_cons_succ]
      refine wpAnyT_one 7 rfl (by kernel_rfl) (fun K hQ => ?_)
      rw [if_pos (by rfl)]
      go_simp
      go_at_call 36
      refine (word_new l w1 (by omega)).mono ?_
      rintro ev w2 ⟨rfl, r3, hb⟩
      have NX2 := Lib.hid (NX1.out.trans (hb.mono NX1.out.size))
      have HO := Lib.hid (own_below HO.out hb)
      have HNE := Lib.hid (show 0 < 4 → ∀ ad, (some ⟨w1.heap.size, 0, none⟩ : Option Addr) = some ad → some ad.block ≠ (Value.slice (some ⟨wd.heap.size, 0, none⟩) 0 (l + 12)).ownBlock from fun h0 ad e e2 => by injection e with e; rw [← e] at e2; simp only [Value.ownBlock, Option.map_some, Option.some.injEq] at e2; have := HG.out; omega)
      have R3 := r3
      refine hQ.out _ _ ⟨trivial, trivial⟩ (fun hH2 => ?_)
      clear hQ K hb
      try simp only [Act.put, List.setIfInBounds_toArray, List.set_cons_zero, List.set_cons_succ]
      refine wpAnyT_one 8 rfl (by kernel_rfl) (fun K hQ => ?_)
      rw [if_pos (by rfl)]
      go_simp
      go_at_call 35
      refine (sealed_any w.heap.size w (some ⟨wd.heap.size, 0, none⟩) 0 (l + 12) [] (some ⟨w1.heap.size, 0, none⟩) 4 4 (wordL l) w2 HO R3 HNE NX2 (Lib.hid NX2.out.size) HWB.out (by omega)).mono ?_
      rintro ev w3 ⟨v3, rfl, ho3, hb3, hz3⟩
      obtain ⟨A5, c5, rfl, -, -⟩ := own_slice ho3
      have HO3 := Lib.hid ho3
      have HB3 := Lib.hid hb3
      have HZ3 := Lib.hid hz3
      refine hQ.out _ _ ⟨trivial, trivial⟩ (fun hH3 => ?_)
      clear hQ K hb3 hz3 ho3
      try simp only [Act.put, List.setIfInBounds_toArray, List.set_cons_zero, List.set_cons_succ]
      refine wpAnyT_one 10 rfl (by kernel_rfl) (fun K hQ => ?_)
      rw [if_pos (by rfl)]
      go_simp
      go_at_call 35
      refine (sealed_any w.heap.size w A5 _ c5 _ A l cap xs w3 HO3 (Lib.hid ((hr.out.1.below HB3.out).more HZ3.out)) (Lib.hid (fun h0 ad e e2 => by obtain ⟨ad1, e1, h1, -⟩ := hr.out.1.2 h0; rw [e] at e1; injection e1 with e1; subst e1; have := (HO3.out.lt _ e2.symm).1; omega)) HB3 HZ3 hr.out.2.1 (by omega)).mono ?_
      rintro ev w4 ⟨v4, rfl, ho4, hb4, hz4⟩
      have HO4 := Lib.hid ho4
      have HB4 := Lib.hid hb4
      refine hQ.out _ _ ⟨trivial, trivial⟩ (fun hH4 => ?_)
      clear hQ K hb4 hz4 ho4
      try simp only [Act.put, List.setIfInBounds_toArray, List.set_cons_zero, List.set_cons_succ]
      refine wpAnyT_one 11 rfl (by kernel_rfl) (fun K hQ => ?_)
      rw [if_pos (by rfl)]
      go_simp
      refine hQ.out _ _ ⟨trivial, trivial⟩ (fun hH5 => ?_)
      clear hQ K
      try simp only [Act.put, List.setIfInBounds_toArray, List.set_cons_zero, List.set_cons_succ]
      refine wpAnyT_last 12 rfl (by kernel_rfl) (by decide) (fun K hQ => ?_)
      rw [if_pos (by rfl)]
      go_simp
      refine hQ.out _ _ trivial (fun hH6 => ?_)
      clear hQ K
      try simp only [Act.put, List.setIfInBounds_toArray, List.set_cons_zero, List.set_cons_succ]
      refine wpAnyT_done (by kernel_rfl) ?_ _
      go_wp2
      go_ret2
      refine ⟨HB4.out, ?_⟩
      rw [if_neg HNB.out]
      refine ⟨v4, rfl, ?_⟩
      rw [HF.out]
      have h4 := HO4.out
      rw [show 0 + 4 + 4 + l + 4 = l + 12 from by omega] at h4
      exact h4
    · as_aux_lemma =>
      have NX := ND
      rw [if_pos (by rfl)]
      go_simp
      go_at_call 36
      refine (word_new l wd (by omega)).mono ?_
      rintro ev w1 ⟨rfl, r3, hb⟩
      have NX := Lib.hid (NX.out.trans (hb.mono NX.out.size))
      have R3 := r3
      refine hQ.out _ _ ⟨trivial, trivial⟩ (fun hH1 => ?_)
      clear hQ K hb
      try simp only [Act.put, List.setIfInBounds_toArray, List.set_cons_zero, List.set_cons_succ]
      refine wpAnyT_one 3 rfl (by kernel_rfl) (fun K hQ => ?_)
      rw [if_pos (by rfl)]
      go_simp
      obtain ⟨w2, ew⟩ : ∃ w2, w1.alloc (.cells (madeCells #[.int .u8 0] (l + 12)) 5) = w2 := ⟨_, rfl⟩
      have hb : Below w1.heap.size w1 (w1.alloc (.cells (madeCells #[.int .u8 0] (l + 12)) 5)) := (Below.refl _ _).alloc (Nat.le_refl _) _
      have ho : (w1.alloc (.cells (madeCells #[.int .u8 0] (l + 12)) 5)).ownsRow w.heap.size 5 1 (.slice (some ⟨w1.heap.size, 0, none⟩) 0 (l + 12)) 0 [] := World.ownsRow_made w1 _ _ (by have := NX.out.size; omega) (by unfold maxLen; omega) (by rw [size_madeCells, Nat.mul_one])
      rw [ew] at hb ho ⊢
      have HO := Lib.hid ho
      have NX2 := Lib.hid (NX.out.trans (hb.mono NX.out.size))
      have HNE := Lib.hid (show 0 < 4 → ∀ ad, (some ⟨wd.heap.size, 0, none⟩ : Option Addr) = some ad → some ad.block ≠ (Value.slice (some ⟨w1.heap.size, 0, none⟩) 0 (l + 12)).ownBlock from fun h0 ad e e2 => by obtain ⟨ad1, e1, h1, -⟩ := R3.out.2 h0; rw [e] at e1; injection e1 with e1; subst e1; simp only [Value.ownBlock, Option.map_some, Option.some.injEq] at e2; omega)
      have r3 := Lib.hid (R3.out.later hb)
      have R3 := r3
      refine hQ.out _ _ ⟨trivial, trivial⟩ (fun hH2 => ?_)
      clear hQ K hb
      try simp only [Act.put, List.setIfInBounds_toArray, List.set_cons_zero, List.set_cons_succ]
      refine wpAnyT_one 8 rfl (by kernel_rfl) (fun K hQ => ?_)
      rw [if_pos (by rfl)]
      go_simp
      go_at_call 35
      refine (sealed_any w.heap.size w (some ⟨w1.heap.size, 0, none⟩) 0 (l + 12) [] (some ⟨wd.heap.size, 0, none⟩) 4 4 (wordL l) w2 HO R3 HNE NX2 (Lib.hid NX2.out.size) HWB.out (by omega)).mono ?_
      rintro ev w3 ⟨v3, rfl, ho3, hb3, hz3⟩
      obtain ⟨A5, c5, rfl, -, -⟩ := own_slice ho3
      have HO3 := Lib.hid ho3
      have HB3 := Lib.hid hb3
      have HZ3 := Lib.hid hz3
      refine hQ.out _ _ ⟨trivial, trivial⟩ (fun hH3 => ?_)
      clear hQ K hb3 hz3 ho3
      try simp only [Act.put, List.setIfInBounds_toArray, List.set_cons_zero, List.set_cons_succ]
      refine wpAnyT_one 10 rfl (by kernel_rfl) (fun K hQ => ?_)
      rw [if_pos (by rfl)]
      go_simp
      go_at_call 35
      refine (sealed_any w.heap.size w A5 _ c5 _ A l cap xs w3 HO3 (Lib.hid ((hr.out.1.below HB3.out).more HZ3.out)) (Lib.hid (fun h0 ad e e2 => by obtain ⟨ad1, e1, h1, -⟩ := hr.out.1.2 h0; rw [e] at e1; injection e1 with e1; subst e1; have := (HO3.out.lt _ e2.symm).1; omega)) HB3 HZ3 hr.out.2.1 (by omega)).mono ?_
      rintro ev w4 ⟨v4, rfl, ho4, hb4, hz4⟩
      have HO4 := Lib.hid ho4
      have HB4 := Lib.hid hb4
      refine hQ.out _ _ ⟨trivial, trivial⟩ (fun hH4 => ?_)
      clear hQ K hb4 hz4 ho4
      try simp only [Act.put, List.setIfInBounds_toArray, List.set_cons_zero, List.set_cons_succ]
      refine wpAnyT_one 11 rfl (by kernel_rfl) (fun K hQ => ?_)
      rw [if_pos (by rfl)]
      go_simp
      refine hQ.out _ _ ⟨trivial, trivial⟩ (fun hH5 => ?_)
      clear hQ K
      try simp only [Act.put, List.setIfInBounds_toArray, List.set_cons_zero, List.set_cons_succ]
      refine wpAnyT_last 12 rfl (by kernel_rfl) (by decide) (fun K hQ => ?_)
      rw [if_pos (by rfl)]
      go_simp
      refine hQ.out _ _ trivial (fun hH6 => ?_)
      clear hQ K
      try simp only [Act.put, List.setIfInBounds_toArray, List.set_cons_zero, List.set_cons_succ]
      refine wpAnyT_done (by kernel_rfl) ?_ _
      go_wp2
      go_ret2
      refine ⟨HB4.out, ?_⟩
      rw [if_neg HNB.out]
      refine ⟨v4, rfl, ?_⟩
      rw [HF.out]
      have h4 := HO4.out
      rw [show 0 + 4 + 4 + l + 4 = l + 12 from by omega] at h4
      exact h4
end Go.Proofs.YtlnneacgllhdhaaGreatDoor
end
section
namespace Go.Proofs.YtlnneacgllhdhaaGreatDoor
open Go.RowKit OctMath
set_option linter.unusedVariables false
theorem row_base {w : World} {base base' : Nat} {e : TypeId} {size n : Nat} {v : Value} {xs : List Value} (h : w.ownsRow base e size v n xs) (hb : base' ≤ base) : w.ownsRow base' e size v n xs := by
  refine ⟨h.1, ?_⟩
  rcases h.2 with h0 | ⟨g, cap, cur, hv, hg, hr⟩
  · exact .inl h0
  · exact .inr ⟨g, cap, cur, hv, by omega, hr⟩
/-- Bytes of a slice type, of one block each: no two kinds share a block. -/
theorem rows_apart {w : World} {base base' size size' n m : Nat} {t t' : TypeId} {v v' : Value} {xs ys : List Value} (h : w.ownsRow base t size v n xs) (h' : w.ownsRow base' t' size' v' m ys) (hne : t ≠ t') {g : Nat} (hg : v'.ownBlock = some g) : v.ownBlock ≠ some g := by
  rcases h'.2 with ⟨rfl, _⟩ | ⟨g', cap, cur, rfl, _, hh, _⟩
  · simp [Value.ownBlock] at hg
  · have : g' = g := by simpa [Value.ownBlock] using hg
    subst this
    exact own_blk_ne h (show Blk w g' t' cur from hh) hne
/-- Rows of the call's own. -/
def RowsOwn (w : World) (base : Nat) (vs : List Value) (ls : List (List Nat)) : Prop :=
  vs.length = ls.length ∧ ∀ (i : Nat) (l : List Nat), ls[i]? = some l → ∃ v, vs[i]? = some v ∧ w.ownsRow base 5 1 v l.length (l.map bv) ∧ Byt l
/-- A matrix of the call's own. -/
def OwnM (w : World) (base : Nat) (v : Value) (ls : List (List Nat)) : Prop := ∃ vs, w.ownsRow base 33 1 v ls.length vs ∧ RowsOwn w base vs ls
/-- Rows that are read. -/
def RowsIn (w : World) (vs : List Value) (ls : List (List Nat)) : Prop :=
  vs.length = ls.length ∧ ∀ (i : Nat) (l : List Nat), ls[i]? = some l → ∃ A cap, vs[i]? = some (.slice A l.length cap) ∧ l.length ≤ cap ∧ cap ≤ maxLen ∧ Reads w w.heap.size 1 A l.length (l.map bv) ∧ Byt l
/-- A matrix that is read. -/
def InM (w : World) (A : Option Addr) (cap : Nat) (ls : List (List Nat)) : Prop := ls.length ≤ cap ∧ cap ≤ maxLen ∧ ∃ vs, Reads w w.heap.size 1 A ls.length vs ∧ RowsIn w vs ls
section
variable {w w' : World} {base base' cap : Nat} {vs : List Value} {ls : List (List Nat)} {v : Value} {A : Option Addr}
theorem RowsOwn.in_ (h : RowsOwn w base vs ls) : RowsIn w vs ls := by
  refine ⟨h.1, fun i l hl => ?_⟩
  obtain ⟨v, hv, ho, hb⟩ := h.2 i l hl
  obtain ⟨A, cap, rfl, h1, h2⟩ := own_slice ho
  exact ⟨A, cap, hv, h1, h2, Reads.of_own ho, hb⟩
theorem OwnM.slice (h : OwnM w base v ls) : ∃ A cap, v = .slice A ls.length cap ∧ InM w A cap ls := by
  obtain ⟨vs, ho, hr⟩ := h
  obtain ⟨A, cap, rfl, h1, h2⟩ := own_slice ho
  exact ⟨A, cap, rfl, h1, h2, vs, Reads.of_own ho, hr.in_⟩
theorem RowsOwn.below (h : RowsOwn w base vs ls) (hb : Below w.heap.size w w') : RowsOwn w' base vs ls :=
  ⟨h.1, fun i l hl => let ⟨v, hv, ho, hy⟩ := h.2 i l hl; ⟨v, hv, own_below ho hb, hy⟩⟩
theorem OwnM.below (h : OwnM w base v ls) (hb : Below w.heap.size w w') : OwnM w' base v ls :=
  let ⟨vs, ho, hr⟩ := h; ⟨vs, own_below ho hb, hr.below hb⟩
theorem RowsIn.later (h : RowsIn w vs ls) (hb : Below w.heap.size w w') : RowsIn w' vs ls :=
  ⟨h.1, fun i l hl => let ⟨A, cap, hv, h1, h2, hr, hy⟩ := h.2 i l hl; ⟨A, cap, hv, h1, h2, hr.later hb, hy⟩⟩
theorem InM.later (h : InM w A cap ls) (hb : Below w.heap.size w w') : InM w' A cap ls :=
  let ⟨h1, h2, vs, hr, hi⟩ := h; ⟨h1, h2, vs, hr.later hb, hi.later hb⟩
/-- Row number i of a matrix that is read. -/
theorem InM.row (h : InM w A cap ls) {i : Nat} (hi : i < ls.length) : ∃ ad B c, A = some ad ∧ w.cell? (ad.add i) = some (.slice B (ls.getD i []).length c) ∧ (ls.getD i []).length ≤ c ∧ c ≤ maxLen ∧
    Reads w w.heap.size 1 B (ls.getD i []).length ((ls.getD i []).map bv) ∧ Byt (ls.getD i []) := by
  obtain ⟨_, _, vs, hr, hi2⟩ := h
  obtain ⟨ad, u, e, _, hu, hc⟩ := hr.at_ hi
  have hl : ls[i]? = some (ls.getD i []) := by rw [List.getD_eq_getElem?_getD, List.getElem?_eq_getElem hi]; rfl
  obtain ⟨B, c, hv, h1, h2, h3, h4⟩ := hi2.2 i _ hl
  rw [hu] at hv
  cases hv
  exact ⟨ad, B, c, e, hc, h1, h2, h3, h4⟩
end
theorem Tryz.infoRow : (Tryz.prog.info? 33).map (fun i => (i.zero, i.size, i.bytes)) = some (some (.slice none 0 0), 1, 24) := by kernel_rfl
/-- A matrix of the call's own that grows; what was there stays. -/
structure MSt (w : World) (v : Value) (ls : List (List Nat)) (wr : World) : Prop where
  own : OwnM wr w.heap.size v ls
  bel : Below w.heap.size w wr
theorem RowsOwn.nil (w : World) (base : Nat) : RowsOwn w base [] [] := ⟨rfl, fun i l h => by simp at h⟩
theorem MSt.nil {w wr : World} (hb : Below w.heap.size w wr) : MSt w (.slice none 0 0) [] wr := ⟨⟨[], ⟨rfl, .inl ⟨rfl, rfl⟩⟩, RowsOwn.nil _ _⟩, hb⟩
section
variable {w wr w' : World} {v v' u : Value} {ls : List (List Nat)} {l : List Nat} {vs : List Value} {base : Nat}
theorem RowsOwn.snoc (h : RowsOwn w base vs ls) (hu : w.ownsRow base 5 1 u l.length (l.map bv)) (hb : Byt l) : RowsOwn w base (vs ++ [u]) (ls ++ [l]) := by
  refine ⟨by rw [List.length_append, List.length_append, h.1]; rfl, fun i k hk => ?_⟩
  rcases Nat.lt_or_ge i ls.length with hi | hi
  · rw [List.getElem?_append_left hi] at hk
    obtain ⟨v, hv, ho, hy⟩ := h.2 i k hk
    exact ⟨v, by rw [List.getElem?_append_left (by rw [h.1]; exact hi)]; exact hv, ho, hy⟩
  · rw [List.getElem?_append_right hi] at hk
    have hi0 : i - ls.length = 0 := by
      rcases Nat.eq_zero_or_pos (i - ls.length) with h0 | h0
      · exact h0
      · rw [List.getElem?_eq_none (by simp; omega)] at hk; cases hk
    rw [hi0] at hk
    simp only [List.getElem?_cons_zero, Option.some.injEq] at hk
    subst hk
    exact ⟨u, by rw [List.getElem?_append_right (by rw [h.1]; exact hi), h.1, hi0]; rfl, hu, hb⟩
theorem RowsOwn.kept {row : Option Nat} (h : RowsOwn w base vs ls) (hg : w.grownBy w' row) (hn : ∀ v l, w.ownsRow base 5 1 v (l : List Value).length l → v.ownBlock = none ∨ v.ownBlock ≠ row) : RowsOwn w' base vs ls :=
  ⟨h.1, fun i l hl => let ⟨v, hv, ho, hy⟩ := h.2 i l hl; ⟨v, hv, ho.kept hg (hn v (l.map bv) (by rw [List.length_map]; exact ho)), hy⟩⟩
/-- A row's block is none of an outer slice's. -/
theorem row_apart {t : TypeId} {n m size : Nat} {xs ys : List Value} {base' : Nat} (h : w.ownsRow base 5 1 u n xs) (h' : w.ownsRow base' 33 size v m ys) : u.ownBlock = none ∨ u.ownBlock ≠ v.ownBlock := by
  cases e : v.ownBlock with
  | none =>
    cases e2 : u.ownBlock with
    | none => exact .inl rfl
    | some k => right; simp
  | some g => exact .inr (rows_apart h h' (by decide) e)
theorem RowsOwn.alloc (h : RowsOwn w base vs ls) (o : Obj) : RowsOwn (w.alloc o) base vs ls := h.below ((Below.refl _ _).alloc (Nat.le_refl _) _)
theorem MSt.alloc (h : MSt w v ls wr) (o : Obj) : MSt w v ls (wr.alloc o) := ⟨h.own.below ((Below.refl _ _).alloc (Nat.le_refl _) _), h.bel.alloc h.bel.size o⟩
theorem MSt.below (h : MSt w v ls wr) (hb : Below wr.heap.size wr w') : MSt w v ls w' := ⟨h.own.below hb, h.bel.trans (hb.mono h.bel.size)⟩
/-- What an append onto the matrix turns of other blocks: nothing. -/
def Others (wr w' : World) : Prop := ∀ g t cs, t ≠ 33 → Blk wr g t cs → Blk w' g t cs
end
theorem wpl_row {ops : Array Oper} {rest : List Oper} {o : Oper} {a : Act} {Q : Exit → Act → World → Prop} {w wr : World} {v : Value} {ls : List (List Nat)} (hg : o.guard = none) (s x : Operand)
    (ho : o.op = .call { callee := .builtin .append, args := #[s, x], argTypes := #[52, 52] }) (hst : MSt w v ls wr) (hl : ls.length ≤ 1000000000000) (u : Value) (l : List Nat)
    (hu : wr.ownsRow w.heap.size 5 1 u l.length (l.map bv)) (hb : Byt l) (hs : a.eval s = v) {gx : Nat} (hgx : gx = wr.heap.size) (hx : a.eval x = .slice (some ⟨gx, 0, none⟩) 1 1)
    (h : ∀ v' w', Hid (MSt w v' (ls ++ [l]) w' ∧ Others wr w') → wpList Tryz.prog ops Q rest (a.put o.dst v') w') : wpList Tryz.prog ops Q (o :: rest) a (wr.alloc (.cells #[u] 33)) := by
  subst hgx
  obtain ⟨i, hi, h2, h3, h4⟩ := info_parts Tryz.infoRow
  obtain ⟨⟨vs, hown, hrows⟩, hbel⟩ := hst.alloc (.cells #[u] 33)
  have hu1 : u.oneCell' = true := by
    obtain ⟨A, c, rfl, _⟩ := own_slice hu
    rfl
  refine wpList_append_any _ hg s x 52 ho w.heap.size 33 i (.slice none 0 0) 1 24 Tryz.underlying52 hi h2 h3 h4 rfl (by decide) v ls.length vs hs hown (wr.heap.size + 1) (some ⟨wr.heap.size, 0, none⟩) 1 1 [u] hx
    (Reads.lit1 wr 33 u) (by intro y hy; rw [List.mem_singleton.1 hy]; exact hu1) (by unfold maxLen; omega) (by omega) hbel.size fun v' w' k1 k2 k3 => h v' w' (Lib.hid ⟨⟨⟨vs ++ [u], by rw [List.length_append]; exact k1, ?_⟩, ?_⟩, ?_⟩)
  · have hu' : (wr.alloc (.cells #[u] 33)).ownsRow w.heap.size 5 1 u l.length (l.map bv) := hu.alloc _
    exact (hrows.snoc hu' hb).kept k2 fun y _ hy => row_apart (t := 0) hy hown
  · exact bel_grown_own hbel hbel.size hown k2
  · intro g t cs hne hB
    refine (hB.alloc _).grown k2 fun e => ?_
    exact own_blk_ne hown (hB.alloc _) (fun e2 => hne e2.symm) e.symm
end Go.Proofs.YtlnneacgllhdhaaGreatDoor
end
section
namespace Go.Proofs.YtlnneacgllhdhaaGreatDoor
open OctMath
set_option linter.unusedVariables false
/-- What is read after k frames, and where. -/
def stepN (xs : List Nat) : Nat → List (List Nat) × Nat
  | 0 => ([], 0)
  | k + 1 => ((stepN xs k).1 ++ [(nxt (xs.drop (stepN xs k).2)).2], (stepN xs k).2 + (nxt (xs.drop (stepN xs k).2)).2.length + 12)
def goodN (xs : List Nat) (k : Nat) : Prop := (nxt (xs.drop (stepN xs k).2)).1 = 0
/-- All that is read of a stream, and where the reading ends. -/
def AllR (xs : List Nat) (ls : List (List Nat)) (p : Nat) : Prop := ∃ k, (∀ j, j < k → goodN xs j) ∧ ¬ goodN xs k ∧ stepN xs k = (ls, p)
theorem AllR.uniq {xs : List Nat} {ls ks : List (List Nat)} {p q : Nat} (h : AllR xs ls p) (h' : AllR xs ks q) : ls = ks ∧ p = q := by
  obtain ⟨k, a, b, c⟩ := h
  obtain ⟨k', a', b', c'⟩ := h'
  have : k = k' := by
    rcases Nat.lt_trichotomy k k' with h | h | h
    · exact absurd (a' k h) b
    · exact h
    · exact absurd (a k' h) b'
  subst this
  rw [c] at c'
  exact ⟨congrArg Prod.fst c', congrArg Prod.snd c'⟩
theorem stepN_len (xs : List Nat) : ∀ k, (stepN xs k).1.length = k
  | 0 => rfl
  | k + 1 => by unfold stepN; simp [stepN_len xs k]
theorem nxt_drop_len {xs : List Nat} {p : Nat} (h : (nxt (xs.drop p)).1 = 0) : p + (nxt (xs.drop p)).2.length + 12 ≤ xs.length := by
  have := nxt_len h
  rw [List.length_drop] at this
  omega
theorem stepN_bound {xs : List Nat} : ∀ k, (∀ j, j < k → goodN xs j) → 12 * k ≤ (stepN xs k).2 ∧ (stepN xs k).2 ≤ xs.length
  | 0, _ => ⟨Nat.zero_le _, Nat.zero_le _⟩
  | k + 1, h => by
    have h1 := stepN_bound k fun j hj => h j (by omega)
    have h2 := nxt_drop_len (h k (by omega))
    show 12 * (k + 1) ≤ (stepN xs k).2 + (nxt (xs.drop (stepN xs k).2)).2.length + 12 ∧ (stepN xs k).2 + (nxt (xs.drop (stepN xs k).2)).2.length + 12 ≤ xs.length
    omega
/-- Frames of rows, one behind the other. -/
def frs (bs : List (List Nat)) : List Nat := bs.flatMap fr
theorem frs_cons (b : List Nat) (bs : List (List Nat)) : frs (b :: bs) = fr b ++ frs bs := rfl
theorem frs_app (cs bs : List (List Nat)) : frs (cs ++ bs) = frs cs ++ frs bs := by unfold frs; rw [List.flatMap_append]
theorem frs_one (b : List Nat) : frs [b] = fr b := by unfold frs; simp
/-- Frames of right rows are read one by one. -/
theorem stepN_frs (bs : List (List Nat)) (tail : List Nat) (hb : ∀ b ∈ bs, (∀ x ∈ b, x < 256) ∧ b.length ≤ 4194304) :
    ∀ k, k ≤ bs.length → stepN (frs bs ++ tail) k = (bs.take k, (frs (bs.take k)).length) ∧ ∀ j, j < k → goodN (frs bs ++ tail) j
  | 0, _ => ⟨rfl, fun j h => absurd h (by omega)⟩
  | k + 1, hk => by
    obtain ⟨h1, h2⟩ := stepN_frs bs tail hb k (by omega)
    have hlt : k < bs.length := by omega
    have e : frs bs ++ tail = frs (bs.take k) ++ (fr bs[k] ++ (frs (bs.drop (k + 1)) ++ tail)) := by
      conv => lhs; rw [← List.take_append_drop k bs, frs_app, List.drop_eq_getElem_cons hlt, frs_cons]
      simp only [List.append_assoc]
    have hd : (frs bs ++ tail).drop (frs (bs.take k)).length = fr bs[k] ++ (frs (bs.drop (k + 1)) ++ tail) := by
      rw [e, List.drop_left]
    obtain ⟨c1, c2⟩ := hb _ (List.getElem_mem hlt)
    have hn := nxt_fr c1 c2 (frs (bs.drop (k + 1)) ++ tail)
    have hg : goodN (frs bs ++ tail) k := by
      unfold goodN
      rw [h1, hd, hn]
    refine ⟨?_, fun j hj => ?_⟩
    · show ((stepN (frs bs ++ tail) k).1 ++ [(nxt ((frs bs ++ tail).drop (stepN (frs bs ++ tail) k).2)).2], (stepN (frs bs ++ tail) k).2 + (nxt ((frs bs ++ tail).drop (stepN (frs bs ++ tail) k).2)).2.length + 12) = _
      rw [h1]
      show (bs.take k ++ [(nxt ((frs bs ++ tail).drop (frs (bs.take k)).length)).2], (frs (bs.take k)).length + (nxt ((frs bs ++ tail).drop (frs (bs.take k)).length)).2.length + 12) = _
      rw [hd, hn]
      have e2 : bs.take (k + 1) = bs.take k ++ [bs[k]] := List.take_succ_eq_append_getElem hlt
      rw [e2, frs_app, frs_one, List.length_append, fr_len, Nat.add_assoc]
    · rcases Nat.lt_or_eq_of_le (Nat.lt_succ_iff.1 hj) with h | h
      · exact h2 j h
      · subst h; exact hg
/-- Frames of right rows, and behind them what is no frame. -/
theorem allR_frs {bs : List (List Nat)} {tail : List Nat} (hb : ∀ b ∈ bs, (∀ x ∈ b, x < 256) ∧ b.length ≤ 4194304) (ht : (nxt tail).1 ≠ 0) : AllR (frs bs ++ tail) bs (frs bs).length := by
  obtain ⟨h1, h2⟩ := stepN_frs bs tail hb bs.length (Nat.le_refl _)
  rw [List.take_length] at h1
  refine ⟨bs.length, h2, ?_, h1⟩
  unfold goodN
  rw [h1]
  show ¬ (nxt ((frs bs ++ tail).drop (frs bs).length)).1 = 0
  rw [List.drop_left]
  exact ht
theorem nxt_cut0 {b : List Nat} (hb : ∀ x ∈ b, x < 256) (hl : b.length ≤ 4194304) {k : Nat} (hk : k < (fr b).length) : (nxt ((fr b).take k)).1 ≠ 0 := by
  rw [nxt_cut hb hl hk]; decide
end Go.Proofs.YtlnneacgllhdhaaGreatDoor
end
section
namespace Go.Proofs.YtlnneacgllhdhaaGreatDoor
open Go.RowKit OctMath
set_option linter.unusedVariables false
set_option linter.unusedSimpArgs false
def RetFrO (xs : List Nat) (at_ : Int) (w : World) (e : Ending) (w' : World) : Prop := Below w.heap.size w w' ∧
  ∃ v, e = .returned (.tuple #[v, .int .i64 (frAt xs at_).2.2, .int .i64 ((frAt xs at_).1 : Int)]) ∧ w'.ownsRow w.heap.size 5 1 v (frAt xs at_).2.1.length ((frAt xs at_).2.1.map bv) ∧ Byt (frAt xs at_).2.1
set_option maxRecDepth 100000 in
set_option maxHeartbeats 4000000 in
theorem Next_own (A : Option Addr) (l cap : Nat) (xs : List Nat) (at_ : Int) (w : World) (hr : Hid (RdB w A l cap xs)) (hg : Hid (GE w)) (hmx : l ≤ 140737488355328) :
    Calls Tryz.prog 15 #[.slice A l cap, .int .i64 at_] w (RetFrO xs at_ w) := by
  have hl := hr.out.len
  by_cases ho : at_ < 0 ∨ (xs.length : Int) < at_
  · have HE := Lib.hid (frAt_out ho)
    rw [hl] at ho
    by_cases h1 : at_ < 0
    · have d1 : decide (at_ < 0) = true := decide_eq_true h1
      clear ho h1 hmx hl
      go_enter Tryz.func15, Tryz.ntmps15
      go_wp2
      go_ret3
      refine ⟨Below.refl _ _, .slice none 0 0, ?_, ?_, ?_⟩
      · rw [HE.out]; rfl
      · rw [HE.out]; exact ⟨rfl, .inl ⟨rfl, rfl⟩⟩
      · rw [HE.out]; exact fun x h => by cases h
    · have d1 : decide (at_ < 0) = false := decide_eq_false h1
      have d2 : decide (at_ > (l : Int)) = true := decide_eq_true (by omega)
      have d3 : decide ((l : Int) < at_) = true := decide_eq_true (by omega)
      clear ho h1 hmx hl
      go_enter Tryz.func15, Tryz.ntmps15
      go_wp2
      go_ret3
      refine ⟨Below.refl _ _, .slice none 0 0, ?_, ?_, ?_⟩
      · rw [HE.out]; rfl
      · rw [HE.out]; exact ⟨rfl, .inl ⟨rfl, rfl⟩⟩
      · rw [HE.out]; exact fun x h => by cases h
  · obtain ⟨p, rfl⟩ := Int.eq_ofNat_of_zero_le (show 0 ≤ at_ by omega)
    have d1 : decide ((p : Int) < 0) = false := decide_eq_false (by omega)
    have d2 : decide ((p : Int) > (l : Int)) = false := decide_eq_false (by omega)
    have d3 : decide ((l : Int) < (p : Int)) = false := decide_eq_false (by omega)
    have d4 : decide (l < p) = false := decide_eq_false (by omega)
    obtain ⟨A2, hs2, hr2⟩ := slice_tail Tryz.underlying33 Tryz.infoU8 hr.out.1 p (by omega) hr.out.2.2.1
    have hb2 : Byt (xs.drop p) := fun x hx => hr.out.2.1 x (List.mem_of_mem_drop hx)
    have HNX := Lib.hid (next_any A2 (l - p) (cap - p) (xs.drop p) w (Lib.hid ⟨hr2 w hr.out.1, hb2, by have := hr.out.2.2.1; omega, by have := hr.out.2.2.2; omega⟩))
    have HOK := Lib.hid (fun h => frAt_ok (xs := xs) (p := p) (by omega) h)
    have HBAD := Lib.hid (fun h => frAt_bad (xs := xs) (p := p) (by omega) h)
    have HLN := Lib.hid (fun h => nxt_len (s := xs.drop p) h)
    have hpl : p ≤ l := by omega
    have HDL := Lib.hid (show (xs.drop p).length = l - p from by rw [List.length_drop, hl])
    clear ho hr2 hb2 hl
    go_enter Tryz.func15, Tryz.ntmps15
    go_wp2_with fail
    refine HNX.out.mono ?_
    rintro e w1 ⟨hb, ⟨h0, rfl⟩ | ⟨h0, A1, n, c1, rfl, r1⟩⟩
    · have HE := Lib.hid (HBAD.out h0)
      have HB := Lib.hid hb
      clear hb h0 HBAD HOK HLN
      generalize (nxt (xs.drop p)).1 = er at *
      go_wp2_with (go_at_call 38; refine (wnumber_any (er : Int) _ (Lib.hid (hg.out.later HB.out))).mono ?_; rintro ev w2 ⟨rfl, hb⟩; have HB2 := Lib.hid (HB.out.trans (hb.mono HB.out.size)); clear hb)
      go_ret3
      refine ⟨HB2.out, .slice none 0 0, ?_, ?_, ?_⟩
      · rw [HE.out]; rfl
      · rw [HE.out]; exact ⟨rfl, .inl ⟨rfl, rfl⟩⟩
      · rw [HE.out]; exact fun x h => by cases h
    · have HE := Lib.hid (HOK.out h0)
      have HB := Lib.hid hb
      have R1 := Lib.hid r1
      have hnl := r1.len
      have hln := HLN.out h0
      rw [HDL.out] at hln
      rw [hnl] at hln
      have HNL := Lib.hid hnl
      clear hb h0 HBAD HOK HLN r1 hnl
      generalize (nxt (xs.drop p)).2 = ys at *
      go_wp2_with (at_builtin
                   refine wpl_append rfl (.const (.slice none 0 0)) (.tmp 28) _ rfl w1 w1.heap.size 5 _ 1 1 Tryz.underlying33 Tryz.infoU8 rfl (by decide) (.slice none 0 0) 0 [] rfl ⟨by simp, .inl ⟨rfl, rfl⟩⟩ w1.heap.size A1 n c1 (ys.map bv) rfl R1.out.1 (bv_one ys) (by omega) (by decide) (Below.refl _ _) (Nat.le_refl _) ?_
                   intro v2 w2 hh
                   obtain ⟨A3, c3, rfl, hc3, hm3⟩ := own_slice hh.out.1
                   have HR3 := Lib.hid (row_base hh.out.1 HB.out.size)
                   have HB2 := Lib.hid (HB.out.trans (hh.out.2.1.mono HB.out.size))
                   have HC3 := Lib.hid (And.intro hc3 hm3)
                   clear hh hc3 hm3)
      go_ret3
      refine ⟨HB2.out, .slice A3 n c3, ?_, ?_, ?_⟩
      · show Ending.returned (.tuple #[.slice A3 n c3, .int .i64 ((p : Int) + (n : Int) + 8 + 4), .int .i64 0]) = _
        rw [HE.out]
        simp only
        rw [HNL.out, show (p : Int) + (n : Int) + 8 + 4 = (p : Int) + (n : Int) + 12 from by omega]
        rfl
      · rw [HE.out]
        have h := HR3.out
        rw [Nat.zero_add, List.nil_append] at h
        rw [show ((0, ys, (p : Int) + (ys.length : Int) + 12) : Nat × List Nat × Int).2.1 = ys from rfl, HNL.out]
        exact h
      · rw [HE.out]
        exact R1.out.2.1
theorem frO_ok {xs ys : List Nat} {p m : Nat} {w w' : World} {e : Ending} (hF : frAt xs (p : Int) = (0, ys, (p : Int) + (m : Int) + 12)) (hm : ys.length = m) (h : RetFrO xs (p : Int) w e w') :
    Below w.heap.size w w' ∧ ∃ v, e = .returned (.tuple #[v, .int .i64 ((p : Int) + (m : Int) + 12), .int .i64 0]) ∧ w'.ownsRow w.heap.size 5 1 v m (ys.map bv) ∧ Byt ys := by
  obtain ⟨hb, v, he, ho, hy⟩ := h
  rw [hF] at he ho hy
  simp only [hm] at ho
  exact ⟨hb, v, he, ho, hy⟩
theorem frO_no {xs : List Nat} {p c : Nat} {w w' : World} {e : Ending} (hF : frAt xs (p : Int) = (c, [], 0)) (h : RetFrO xs (p : Int) w e w') :
    Below w.heap.size w w' ∧ ∃ v, e = .returned (.tuple #[v, .int .i64 0, .int .i64 (c : Int)]) := by
  obtain ⟨hb, v, he, ho, hy⟩ := h
  rw [hF] at he
  exact ⟨hb, v, he⟩
def RetAll (xs : List Nat) (w : World) (e : Ending) (w' : World) : Prop := ∃ v ls p, e = .returned (.tuple #[v, .int .i64 ((p : Nat) : Int)]) ∧ AllR xs ls p ∧ MSt w v ls w'
set_option maxRecDepth 100000 in
set_option maxHeartbeats 4000000 in
theorem All_any (A : Option Addr) (l cap : Nat) (xs : List Nat) (w : World) (hr : Hid (RdB w A l cap xs)) (hg : Hid (GE w)) (hmx : l ≤ 10000000000000) :
    Calls Tryz.prog 16 #[.slice A l cap] w (RetAll xs w) := by
  have hl := hr.out.len
  have HL := Lib.hid hl
  clear hl
  go_enter Tryz.func16, Tryz.ntmps16
  go_wp2_with fail
  go_loopw [4, 5, 6, 7, 8] (fun vo vi _ _ _ wr => ∃ k : Nat, Hid (∀ j, j < k → goodN xs j) ∧ vi = .int .i64 ((stepN xs k).2 : Nat) ∧ Hid (MSt w vo (stepN xs k).1 wr)) (fun _ vi _ _ _ _ => l - (intOf vi).toNat)
  case atStart => exact ⟨0, Lib.hid (fun j h => absurd h (by omega)), rfl, Lib.hid (MSt.nil (Below.refl _ _))⟩
  case round =>
    obtain ⟨k, hgd, rfl, hst⟩ := hrel
    obtain ⟨Ao, co, rfl, -⟩ := hst.out.own.slice
    have hb := stepN_bound k hgd.out
    have hlen := stepN_len xs k
    have hRw := Lib.hid (hr.out.later hst.out.bel)
    have hGw := Lib.hid (hg.out.later hst.out.bel)
    by_cases hk : goodN xs k
    · have hn := nxt_drop_len hk
      have hF := frAt_ok (xs := xs) (p := (stepN xs k).2) hb.2 hk
      have HK1 : Hid (stepN xs (k + 1) = ((stepN xs k).1 ++ [(nxt (xs.drop (stepN xs k).2)).2], (stepN xs k).2 + (nxt (xs.drop (stepN xs k).2)).2.length + 12)) := Lib.hid rfl
      have HGD : Hid (∀ j, j < k + 1 → goodN xs j) := Lib.hid (fun j hj => by
        rcases Nat.lt_or_eq_of_le (Nat.lt_succ_iff.1 hj) with h | h
        · exact hgd.out j h
        · rw [h]; exact hk)
      rw [HL.out] at hb hn
      obtain ⟨ys, ey⟩ : ∃ ys, (nxt (xs.drop (stepN xs k).2)).2 = ys := ⟨_, rfl⟩
      obtain ⟨m, em⟩ : ∃ m, ys.length = m := ⟨_, rfl⟩
      rw [ey] at hF HK1 hn
      rw [em] at hF HK1 hn
      obtain ⟨p, ep⟩ : ∃ p, (stepN xs k).2 = p := ⟨_, rfl⟩
      obtain ⟨ls, els⟩ : ∃ ls, (stepN xs k).1 = ls := ⟨_, rfl⟩
      rw [ep] at hF HK1 hn hb ⊢
      rw [els] at HK1 hst hlen ⊢
      have HEM := Lib.hid em
      have HLEN := Lib.hid hlen
      have HC := Lib.hid ((Next_own A l cap xs (p : Int) wr hRw hGw (by omega)).mono fun e w' h => frO_ok hF em h)
      clear hF hk ey em ep els hlen hRw hGw
      go_wp2_with (first
        | (go_at_call 15; refine HC.out.mono ?_; rintro e w1 ⟨hb1, v1, rfl, ho, hy⟩
           obtain ⟨A1, c1, rfl, -, -⟩ := own_slice ho
           have HST := Lib.hid (hst.out.below hb1)
           have HO := Lib.hid (row_base ho hst.out.bel.size)
           have HY := Lib.hid hy
           clear hb1 ho hy)
        | (at_builtin
           refine wpl_row rfl (.tmp 20) (.tmp 22) rfl HST.out (by have := HLEN.out; omega) (.slice A1 m c1) ys (by rw [HEM.out]; exact HO.out) HY.out rfl rfl rfl ?_
           intro v2 w2 hh))
      exact ⟨⟨k + 1, HGD, by rw [HK1.out]; simp, Lib.hid (by rw [HK1.out]; exact hh.out.1)⟩, by simp [intOf]; omega⟩
    · have hF := frAt_bad (xs := xs) (p := (stepN xs k).2) hb.2 hk
      have HNK : Hid (¬ goodN xs k) := Lib.hid hk
      unfold goodN at hk
      obtain ⟨c, ec⟩ : ∃ c, (nxt (xs.drop (stepN xs k).2)).1 = c := ⟨_, rfl⟩
      rw [ec] at hF hk
      obtain ⟨s, es⟩ : ∃ s, stepN xs k = s := ⟨_, rfl⟩
      have HS := Lib.hid es
      rw [es] at hF hst ⊢
      have HC := Lib.hid ((Next_own A l cap xs (s.2 : Int) wr hRw hGw (by omega)).mono fun e w' h => frO_no hF h)
      have j1 : ((c : Int) == 0) = false := by rw [beq_eq_false_iff_ne]; omega
      have j2 : ((c : Int) != 0) = true := by rw [bne, j1]; rfl
      have j3 : decide ((c : Int) = 0) = false := decide_eq_false (by omega)
      have j4 : (c == 0) = false := by rw [beq_eq_false_iff_ne]; omega
      clear hF hk ec es hRw hGw
      go_wp2_with (first
        | (go_at_call 15; refine HC.out.mono ?_; rintro e w1 ⟨hb1, v1, rfl⟩
           have HST := Lib.hid (hst.out.below hb1)
           clear hb1))
      go_ret2
      exact ⟨_, s.1, s.2, rfl, ⟨k, hgd.out, HNK.out, HS.out⟩, HST.out⟩
end Go.Proofs.YtlnneacgllhdhaaGreatDoor
end
