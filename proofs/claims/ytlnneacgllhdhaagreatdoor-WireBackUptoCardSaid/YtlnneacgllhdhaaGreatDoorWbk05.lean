/-
  next, Next: a frame at the head of a stream, at a place of it; Next: a frame at a place of a stream; sealed, Frame: bytes are framed; A DRAWN REGION ONE OF WHOSE OPERATIONS (a store) HITS WHAT THE REGION READS, and waits for those reads: the lo; PLAIN LAWS: a number has one writing; what is put is read again. No program in sight. (joined out of WirF3, WirF4, WirF5, RegLate, OctOneM by shake.py)
-/
import Derived.Test.YtlnneacgllhdhaaGreatDoorRows
import Derived.Deep.RegionHeld3
import Derived.Test.YtlnneacgllhdhaaGreatDoorWbk04
import Derived.Test.YtlnneacgllhdhaaGreatDoorWbk02
section
namespace Go.Proofs.YtlnneacgllhdhaaGreatDoor
open Go.RowKit OctMath
set_option linter.unusedVariables false
set_option linter.unusedSimpArgs false
def RetNxt (xs : List Nat) (w : World) (e : Ending) (w' : World) : Prop := Below w.heap.size w w' ∧
  (((nxt xs).1 ≠ 0 ∧ e = .returned (.tuple #[.slice none 0 0, .iface 125 (.int .i64 ((nxt xs).1 : Int))])) ∨
   ((nxt xs).1 = 0 ∧ ∃ A1 n c1, e = .returned (.tuple #[.slice A1 n c1, .nilIface]) ∧ RdB w' A1 n c1 (nxt xs).2))
theorem nxt_bad {s : List Nat} (h : (opn s 4).1 ≠ 0) : nxt s = ((opn s 4).1, []) := by unfold nxt; rw [if_neg h]
theorem nxt_big {s : List Nat} (h : (opn s 4).1 = 0) (h2 : 4194304 < wordN (opn s 4).2.1) : nxt s = (60, []) := by unfold nxt; rw [if_pos h, if_pos h2]
theorem nxt_in {s : List Nat} (h : (opn s 4).1 = 0) (h2 : ¬ 4194304 < wordN (opn s 4).2.1) : nxt s = ((opn (opn s 4).2.2 (wordN (opn s 4).2.1)).1, (opn (opn s 4).2.2 (wordN (opn s 4).2.1)).2.1) := by unfold nxt; rw [if_pos h, if_neg h2]
theorem opn_parts {s : List Nat} {n : Nat} (h : (opn s n).1 = 0) : opn s n = (0, s.take n, s.drop (n + 4)) := by
  unfold opn at h ⊢
  split
  · rename_i h1; rw [if_pos h1] at h; cases h
  · rename_i h1
    rw [if_neg h1] at h
    split
    · rfl
    · rename_i h2; rw [if_neg h2] at h; cases h
set_option maxRecDepth 100000 in
set_option maxHeartbeats 4000000 in
theorem next_any (A : Option Addr) (l cap : Nat) (xs : List Nat) (w : World) (hr : Hid (RdB w A l cap xs)) : Calls Tryz.prog 37 #[.slice A l cap] w (RetNxt xs w) := by
  have HO1 := Lib.hid (opened_any A l cap xs 4 w hr (by omega))
  go_enter Tryz.func37, Tryz.ntmps37
  go_wp2_with fail
  refine HO1.out.mono ?_
  rintro e w1 ⟨hb, ⟨h0, rfl⟩ | ⟨h0, A1, c1, A2, l2, c2, rfl, r1, r2⟩⟩
  · have HN := Lib.hid (nxt_bad h0)
    have HB := Lib.hid hb
    have HH := Lib.hid h0
    clear hb h0 HO1
    generalize (opn xs 4).1 = er at *
    go_wp2
    go_ret2
    refine ⟨HB.out, .inl ?_⟩
    rw [HN.out]
    exact ⟨HH.out, rfl⟩
  · have hp := opn_parts h0
    have HB := Lib.hid hb
    have R1 := Lib.hid r1
    have R2 := Lib.hid r2
    have HW := Lib.hid (wword_any A1 4 c1 (xs.take 4) w1 (Lib.hid r1.1) r1.2.1 (Nat.le_refl _))
    have hbig := fun h => nxt_big h0 (by rw [hp]; exact h)
    have hin := fun h => nxt_in h0 (by rw [hp]; exact h)
    rw [hp] at hin
    simp only at hin
    have hw4 : (wordN (xs.take 4)) < 4294967296 := by
      have hy := r1.2.1
      have hl4 := r1.len
      match hx : xs.take 4, hl4 with
      | [a, b, c, d], _ =>
        have ha := hy a (by rw [hx]; simp)
        have hb' := hy b (by rw [hx]; simp)
        have hc := hy c (by rw [hx]; simp)
        have hd := hy d (by rw [hx]; simp)
        show a + 256 * b + 65536 * c + 16777216 * d < 4294967296
        omega
    generalize wordN (xs.take 4) = n at *
    clear hp h0 hb r1 r2 HO1
    by_cases hn : 4194304 < n
    · have HN := Lib.hid (hbig hn)
      have d1 : decide ((n : Int) > 4194304) = true := decide_eq_true (by omega)
      have d2 : decide (4194304 < n) = true := decide_eq_true hn
      clear hbig hin hn
      go_wp2_with (go_at_call 88; refine HW.out.mono ?_; rintro ev w2 ⟨rfl, rfl⟩)
      go_ret2
      refine ⟨HB.out.drew, .inl ?_⟩
      rw [HN.out]
      exact ⟨by decide, rfl⟩
    · have HN := Lib.hid (hin hn)
      have d1 : decide ((n : Int) > 4194304) = false := decide_eq_false (by omega)
      have d2 : decide (4194304 < n) = false := decide_eq_false hn
      have hle : n ≤ 4194304 := by omega
      have HO2 := Lib.hid (fun W h => opened_any A2 l2 c2 (xs.drop (4 + 4)) n W h hle)
      clear hbig hin hn
      go_wp2_with (go_at_call 88; refine HW.out.mono ?_; rintro ev w2 ⟨rfl, rfl⟩)
      refine (HO2.out _ (Lib.hid (R2.out.later ((Below.refl _ _).drew)))).mono ?_
      rintro e w3 ⟨hb, ⟨h0, rfl⟩ | ⟨h0, A3, c3, A4, l4, c4, rfl, r1, r2⟩⟩
      · have HB3 := Lib.hid (HB.out.drew.trans (hb.mono HB.out.size))
        have HH := Lib.hid h0
        clear hb h0
        generalize (opn (xs.drop (4 + 4)) n).1 = er at *
        go_wp2
        go_ret2
        refine ⟨HB3.out, .inl ?_⟩
        rw [HN.out]
        exact ⟨HH.out, rfl⟩
      · have HB3 := Lib.hid (HB.out.drew.trans (hb.mono HB.out.size))
        have R3 := Lib.hid r1
        have hp := opn_parts h0
        have HP := Lib.hid hp
        clear hb r1 r2 h0 hp
        go_wp2
        go_ret2
        refine ⟨HB3.out, .inr ?_⟩
        rw [HN.out, HP.out]
        exact ⟨rfl, A3, n, c3, rfl, R3.out⟩
end Go.Proofs.YtlnneacgllhdhaaGreatDoor
end
section
namespace Go.Proofs.YtlnneacgllhdhaaGreatDoor
open Go.RowKit OctMath
set_option linter.unusedVariables false
set_option linter.unusedSimpArgs false
/-- What stands at a place of a stream: the error, the bytes, the place behind. -/
def frAt (xs : List Nat) (at_ : Int) : Nat × List Nat × Int :=
  if at_ < 0 ∨ (xs.length : Int) < at_ then (2, [], 0) else if (nxt (xs.drop at_.toNat)).1 = 0 then (0, (nxt (xs.drop at_.toNat)).2, at_ + (nxt (xs.drop at_.toNat)).2.length + 12) else ((nxt (xs.drop at_.toNat)).1, [], 0)
theorem frAt_out {xs : List Nat} {at_ : Int} (h : at_ < 0 ∨ (xs.length : Int) < at_) : frAt xs at_ = (2, [], 0) := by unfold frAt; rw [if_pos h]
theorem frAt_ok {xs : List Nat} {p : Nat} (h : p ≤ xs.length) (h2 : (nxt (xs.drop p)).1 = 0) : frAt xs (p : Int) = (0, (nxt (xs.drop p)).2, (p : Int) + (nxt (xs.drop p)).2.length + 12) := by
  unfold frAt; rw [if_neg (by omega), Int.toNat_natCast, if_pos h2]
theorem frAt_bad {xs : List Nat} {p : Nat} (h : p ≤ xs.length) (h2 : (nxt (xs.drop p)).1 ≠ 0) : frAt xs (p : Int) = ((nxt (xs.drop p)).1, [], 0) := by
  unfold frAt; rw [if_neg (by omega), Int.toNat_natCast, if_neg h2]
theorem opn_room {s : List Nat} {n : Nat} (h : (opn s n).1 = 0) : n + 4 ≤ s.length := by
  unfold opn at h
  by_cases h1 : s.length < n + 4
  · rw [if_pos h1] at h; cases h
  · omega
theorem nxt_len {s : List Nat} (h : (nxt s).1 = 0) : (nxt s).2.length + 12 ≤ s.length := by
  by_cases h0 : (opn s 4).1 = 0
  · by_cases h1 : 4194304 < wordN (opn s 4).2.1
    · rw [nxt_big h0 h1] at h; cases h
    · rw [nxt_in h0 h1] at h ⊢
      have r1 := opn_room h0
      have r2 := opn_room h
      rw [opn_parts h]
      rw [opn_parts h0] at r2 ⊢
      simp only [List.length_drop, List.length_take] at r2 ⊢
      omega
  · rw [nxt_bad h0] at h; exact absurd h h0
def RetFr (xs : List Nat) (at_ : Int) (w : World) (e : Ending) (w' : World) : Prop := Below w.heap.size w w' ∧
  ∃ A1 n c1, e = .returned (.tuple #[.slice A1 n c1, .int .i64 (frAt xs at_).2.2, .int .i64 ((frAt xs at_).1 : Int)]) ∧ RdB w' A1 n c1 (frAt xs at_).2.1
theorem rdb_nil (w : World) : RdB w none 0 0 [] := ⟨Reads.none_, fun x h => (by cases h), Nat.le_refl _, (by unfold maxLen; omega)⟩
set_option maxRecDepth 100000 in
set_option maxHeartbeats 4000000 in
theorem Next_any (A : Option Addr) (l cap : Nat) (xs : List Nat) (at_ : Int) (w : World) (hr : Hid (RdB w A l cap xs)) (hg : Hid (GE w)) (hmx : l ≤ 140737488355328) :
    Calls Tryz.prog 15 #[.slice A l cap, .int .i64 at_] w (RetFr xs at_ w) := by
  have hl := hr.out.len
  by_cases ho : at_ < 0 ∨ (xs.length : Int) < at_
  · have HE := Lib.hid (frAt_out ho)
    rw [hl] at ho
    by_cases h1 : at_ < 0
    · have d1 : decide (at_ < 0) = true := decide_eq_true h1
      clear ho h1 hmx hl
      go_enter Tryz.func15, Tryz.ntmps15
      go_wp2
      go_ret3
      refine ⟨Below.refl _ _, none, 0, 0, ?_, ?_⟩
      · rw [HE.out]; rfl
      · rw [HE.out]; exact rdb_nil _
    · have d1 : decide (at_ < 0) = false := decide_eq_false h1
      have d2 : decide (at_ > (l : Int)) = true := decide_eq_true (by omega)
      have d3 : decide ((l : Int) < at_) = true := decide_eq_true (by omega)
      clear ho h1 hmx hl
      go_enter Tryz.func15, Tryz.ntmps15
      go_wp2
      go_ret3
      refine ⟨Below.refl _ _, none, 0, 0, ?_, ?_⟩
      · rw [HE.out]; rfl
      · rw [HE.out]; exact rdb_nil _
  · obtain ⟨p, rfl⟩ := Int.eq_ofNat_of_zero_le (show 0 ≤ at_ by omega)
    have d1 : decide ((p : Int) < 0) = false := decide_eq_false (by omega)
    have d2 : decide ((p : Int) > (l : Int)) = false := decide_eq_false (by omega)
    have d3 : decide ((l : Int) < (p : Int)) = false := decide_eq_false (by omega)
    have d4 : decide (l < p) = false := decide_eq_false (by omega)
    obtain ⟨A2, hs2, hr2⟩ := slice_tail Tryz.underlying33 Tryz.infoU8 hr.out.1 p (by omega) hr.out.2.2.1
    have hb2 : Byt (xs.drop p) := fun x hx => hr.out.2.1 x (List.mem_of_mem_drop hx)
    have HNX := Lib.hid (next_any A2 (l - p) (cap - p) (xs.drop p) w (Lib.hid ⟨hr2 w hr.out.1, hb2, by have := hr.out.2.2.1; omega, by have := hr.out.2.2.2; omega⟩))
    have HOK := Lib.hid (fun h => frAt_ok (xs := xs) (p := p) (by omega) h)
    have HBAD := Lib.hid (fun h => frAt_bad (xs := xs) (p := p) (by omega) h)
    have HLN := Lib.hid (fun h => nxt_len (s := xs.drop p) h)
    have hpl : p ≤ l := by omega
    have HDL := Lib.hid (show (xs.drop p).length = l - p from by rw [List.length_drop, hl])
    clear ho hr2 hb2 hl
    go_enter Tryz.func15, Tryz.ntmps15
    go_wp2_with fail
    refine HNX.out.mono ?_
    rintro e w1 ⟨hb, ⟨h0, rfl⟩ | ⟨h0, A1, n, c1, rfl, r1⟩⟩
    · have HE := Lib.hid (HBAD.out h0)
      have HB := Lib.hid hb
      clear hb h0 HBAD HOK HLN
      generalize (nxt (xs.drop p)).1 = er at *
      go_wp2_with (go_at_call 38; refine (wnumber_any (er : Int) _ (Lib.hid (hg.out.later HB.out))).mono ?_; rintro ev w2 ⟨rfl, hb⟩; have HB2 := Lib.hid (HB.out.trans (hb.mono HB.out.size)); clear hb)
      go_ret3
      refine ⟨HB2.out, none, 0, 0, ?_, ?_⟩
      · rw [HE.out]; rfl
      · rw [HE.out]; exact rdb_nil _
    · have HE := Lib.hid (HOK.out h0)
      have HB := Lib.hid hb
      have R1 := Lib.hid r1
      have hnl := r1.len
      have hln := HLN.out h0
      rw [HDL.out] at hln
      rw [hnl] at hln
      have HNL := Lib.hid hnl
      clear hb h0 HBAD HOK HLN r1 hnl
      generalize (nxt (xs.drop p)).2 = ys at *
      go_wp2_with (at_builtin
                   refine wpl_append rfl (.const (.slice none 0 0)) (.tmp 28) _ rfl w1 w1.heap.size 5 _ 1 1 Tryz.underlying33 Tryz.infoU8 rfl (by decide) (.slice none 0 0) 0 [] rfl ⟨by simp, .inl ⟨rfl, rfl⟩⟩ w1.heap.size A1 n c1 (ys.map bv) rfl R1.out.1 (bv_one ys) (by omega) (by decide) (Below.refl _ _) (Nat.le_refl _) ?_
                   intro v2 w2 hh
                   obtain ⟨A3, c3, rfl, hc3, hm3⟩ := own_slice hh.out.1
                   have HR3 := Lib.hid (Reads.of_own hh.out.1)
                   have HB2 := Lib.hid (HB.out.trans (hh.out.2.1.mono HB.out.size))
                   have HC3 := Lib.hid (And.intro hc3 hm3)
                   clear hh hc3 hm3)
      go_ret3
      refine ⟨HB2.out, A3, n, c3, ?_, ?_⟩
      · show Ending.returned (.tuple #[.slice A3 n c3, .int .i64 ((p : Int) + (n : Int) + 8 + 4), .int .i64 0]) = _
        rw [HE.out]
        simp only
        rw [HNL.out, show (p : Int) + (n : Int) + 8 + 4 = (p : Int) + (n : Int) + 12 from by omega]
        rfl
      · rw [HE.out]
        have h := HR3.out
        rw [Nat.zero_add, List.nil_append] at h
        have h2 := HC3.out
        rw [Nat.zero_add] at h2
        exact ⟨h, R1.out.2.1, h2.1, h2.2⟩
end Go.Proofs.YtlnneacgllhdhaaGreatDoor
end
section
namespace Go.Proofs.YtlnneacgllhdhaaGreatDoor
open Go.RowKit OctMath
set_option linter.unusedVariables false
set_option linter.unusedSimpArgs false
theorem row_grown {w w' : World} {row : Option Nat} (hg : w.grownBy w' row) {size n : Nat} {A : Option Addr} {xs : List Value} (hr : Reads w w.heap.size size A n xs) (hne : 0 < n → ∀ ad, A = some ad → some ad.block ≠ row) : Reads w' w'.heap.size size A n xs := by
  refine ⟨hr.1, fun hn => ?_⟩
  obtain ⟨ad, e, hb, hc⟩ := hr.2 hn
  refine ⟨ad, e, Nat.lt_of_lt_of_le hb hg.size, fun j u hu => ?_⟩
  rw [← hc j u hu]
  refine World.cell?_of_block ?_
  rw [block_of_add]
  exact hg.block _ hb (hne hn ad e)
theorem own_below {w w' : World} {base size n : Nat} {t : TypeId} {v : Value} {xs : List Value} (h : w.ownsRow base t size v n xs) (hb : Below w.heap.size w w') : w'.ownsRow base t size v n xs := by
  obtain ⟨hl, h0⟩ := h
  refine ⟨hl, ?_⟩
  rcases h0 with h0 | ⟨g, cap, cur, rfl, h1, h2, h3⟩
  · exact .inl h0
  · have hlt : g < w.heap.size := by
      rcases Nat.lt_or_ge g w.heap.size with h | h
      · exact h
      · rw [Array.getElem?_eq_none h] at h2; cases h2
    exact .inr ⟨g, cap, cur, rfl, h1, (hb.block g hlt).trans h2, h3⟩
def RetSeal (base : Nat) (w0 : World) (n : Nat) (xs : List Nat) (e : Ending) (w' : World) : Prop :=
  ∃ v, e = .returned v ∧ w'.ownsRow base 5 1 v n (xs.map bv) ∧ Below base w0 w' ∧ base ≤ w'.heap.size
set_option maxRecDepth 100000 in
set_option maxHeartbeats 4000000 in
theorem sealed_any (base : Nat) (w0 : World) (A : Option Addr) (n cap : Nat) (xs : List Nat) (B : Option Addr) (m c : Nat) (ys : List Nat) (w : World) (ho : Hid (w.ownsRow base 5 1 (.slice A n cap) n (xs.map bv))) (hr : Hid (Reads w w.heap.size 1 B m (ys.map bv))) (hne : Hid (0 < m → ∀ ad, B = some ad → some ad.block ≠ (Value.slice A n cap).ownBlock)) (hbel : Hid (Below base w0 w)) (hbase : Hid (base ≤ w.heap.size)) (hy : Byt ys) (hn : n + m + 4 ≤ 140737488355328) :
    Calls Tryz.prog 35 #[.slice A n cap, .slice B m c] w (RetSeal base w0 (n + m + 4) (xs ++ seal_ ys)) := by
  obtain ⟨i0, hi0, hz0, hz1, hz2⟩ := info_parts Tryz.infoU8
  have hml : ys.length = m := by simpa using hr.out.1
  have HML := Lib.hid hml
  have HSE := Lib.hid (show xs ++ seal_ ys = (xs ++ ys) ++ wordL (crc ys) from by unfold seal_; rw [List.append_assoc])
  have hcl := crc_lt hy
  go_enter Tryz.func35, Tryz.ntmps35
  go_wp2_with (first
    | (at_builtin
       refine wpList_append_any _ rfl (.tmp 5) (.tmp 6) _ rfl base 5 i0 (.int .u8 0) 1 1 Tryz.underlying33 hi0 hz0 hz1 hz2 rfl (by decide) (.slice A n cap) n (xs.map bv) rfl ho.out w.heap.size B m c (ys.map bv) rfl hr.out (bv_one ys) (by unfold maxLen; omega) (by omega) hbase.out ?_
       intro v1 w1 k1 k2 k3
       obtain ⟨A1, c1, rfl, -, -⟩ := own_slice k1
       have HO1 := Lib.hid k1
       have HR1 := Lib.hid (row_grown k2 hr.out hne.out)
       have HB1 := Lib.hid (bel_grown_own hbel.out hbase.out ho.out k2)
       have HZ1 := Lib.hid (Nat.le_trans hbase.out k2.size)
       clear k1 k2 k3)
    | (go_at_call 86; refine (crc_any B c m ys _ hy HML.out HR1.out (by unfold maxLen; omega)).mono ?_; rintro ev w2 ⟨rfl, hb⟩
       have HO2 := Lib.hid (own_below HO1.out hb)
       have HB2 := Lib.hid (HB1.out.trans (hb.mono HZ1.out))
       have HZ2 := Lib.hid (Nat.le_trans HZ1.out hb.size)
       clear hb)
    | (go_at_call 36; refine (word_any (crc ys) _ hcl).mono ?_; rintro ev w3 ⟨A3, n3, c3, rfl, r3, hb, -, -⟩
       obtain rfl : n3 = 4 := (by have := r3.out.1; simp [wordL] at this; omega)
       have HO3 := Lib.hid (own_below HO2.out hb)
       have HB3 := Lib.hid (HB2.out.trans (hb.mono HZ2.out))
       have HZ3 := Lib.hid (Nat.le_trans HZ2.out hb.size)
       have HR3 := r3
       clear hb r3)
    | (at_builtin
       refine wpl_append rfl (.tmp 7) (.tmp 10) _ rfl w0 base 5 _ 1 1 Tryz.underlying33 Tryz.infoU8 rfl (by decide) (.slice A1 (n + m) c1) (n + m) (xs.map bv ++ ys.map bv) rfl HO3.out w3.heap.size A3 4 c3 ((wordL (crc ys)).map bv) rfl HR3.out (bv_one _) (by omega) (by decide) HB3.out HZ3.out ?_
       intro v4 w4 hh
       obtain ⟨A4, c4, rfl, -, -⟩ := own_slice hh.out.1))
  go_ret
  refine ⟨_, rfl, ?_, hh.out.2.1, hh.out.2.2⟩
  rw [HSE.out, List.map_append, List.map_append]
  exact hh.out.1
end Go.Proofs.YtlnneacgllhdhaaGreatDoor
end
section
namespace Go.Proofs.YtlnneacgllhdhaaGreatDoor
open Go
set_option linter.unusedVariables false
section
variable {P : Program} {l : List Oper} {md : Region.Mode} {Q : Exit → Act → World → Prop} {S0 S : World → Prop} {s : Nat}
/-- Whichever order is picked; S0 is shown behind each operation, S as long as number s has not come up. -/
def wpAnyT (P : Program) (md : Region.Mode) (l : List Oper) (Q : Exit → Act → World → Prop) (S0 S : World → Prop) (s : Nat) : Nat → Array Bool → Act → World → Prop
  | 0, listed, a, w => Region.ready md l.toArray listed = [] ∧ Q .normal a w
  | fuel + 1, listed, a, w =>
    (Region.ready md l.toArray listed = [] → Q .normal a w) ∧
    ∀ i ∈ Region.ready md l.toArray listed, wpOp P l.toArray Q i (fun a' w' => (S0 w' ∧ ((listed.setIfInBounds i true).getD s false = false → S w')) ∧ wpAnyT P md l Q S0 S s fuel (listed.setIfInBounds i true) a' w') a w
theorem wpAny_of_late : ∀ (fuel : Nat) (listed : Array Bool) (a : Act) (w : World), wpAnyT P md l Q S0 S s fuel listed a w → wpAny P md l.toArray Q fuel listed a w
  | 0, _, _, _, h => h
  | fuel + 1, _, _, _, h => ⟨h.1, fun i hi => wpOp_mono (fun a' w' h' => wpAny_of_late fuel _ a' w' h'.2) (h.2 i hi)⟩
/-- Which operations wait for number i, directly or through others (itself too). -/
def upB (md : Region.Mode) (l : List Oper) (i : Nat) : Nat → List Bool
  | 0 => []
  | k + 1 => upB md l i k ++ [k == i || (match l.toArray[k]? with | some o => o.after.any fun e => Region.binds md e && (upB md l i k).getD e.on false | none => false)]
theorem upB_len (i k : Nat) : (upB md l i k).length = k := by
  induction k with
  | zero => rfl
  | succ k ih => simp [upB, ih]
def Closed (md : Region.Mode) (l : List Oper) (listed : Array Bool) : Prop :=
  ∀ (j : Nat) oj, l.toArray[j]? = some oj → listed.getD j false = true → ∀ e ∈ oj.after, Region.binds md e = true → listed.getD e.on false = true
def closedB (md : Region.Mode) (l : List Oper) (listed : Array Bool) : Bool :=
  (List.range l.length).all fun j => match l.toArray[j]? with | some o => !listed.getD j false || o.after.all fun e => !Region.binds md e || listed.getD e.on false | none => true
theorem closedB_spec {listed : Array Bool} (h : closedB md l listed = true) : Closed md l listed := by
  intro j o ho hj e he hb
  have hlt : j < l.length := by simpa using (Array.getElem?_eq_some_iff.1 ho).1
  have h1 := List.all_eq_true.1 h j (List.mem_range.2 hlt)
  simp only [ho, hj, Bool.not_true, Bool.false_or] at h1
  have h2 := Array.all_eq_true_iff_forall_mem.1 h1 e he
  simpa [hb] using h2
theorem Closed.set {listed : Array Bool} (h : Closed md l listed) {i : Nat} (hi : i ∈ Region.ready md l.toArray listed) : Closed md l (listed.setIfInBounds i true) := by
  obtain ⟨_, oi, hoi, hall⟩ := mem_ready.1 hi
  intro j oj hj hl e he hb
  by_cases hij : i = j
  · subst hij
    have : oj = oi := Option.some.inj (hj.symm.trans hoi)
    subst this
    exact getD_set_true (hall e he hb)
  · rw [getD_set_ne false hij] at hl
    exact getD_set_true (h j oj hj hl e he hb)
theorem upB_spec {listed : Array Bool} (hc : Closed md l listed) {i : Nat} (hi : listed.getD i false = false) : ∀ k j, (upB md l i k).getD j false = true → listed.getD j false = false := by
  intro k
  induction k with
  | zero => intro j h; simp [upB] at h
  | succ k ih =>
    intro j h
    rw [upB, List.getD_eq_getElem?_getD] at h
    rcases Nat.lt_or_ge j k with hj | hj
    · rw [List.getElem?_append_left (by rw [upB_len]; exact hj), ← List.getD_eq_getElem?_getD] at h
      exact ih j h
    · rw [List.getElem?_append_right (by rw [upB_len]; exact hj), upB_len] at h
      by_cases e : j = k
      · subst e
        simp only [Nat.sub_self, List.getElem?_cons_zero, Option.getD_some, Bool.or_eq_true, beq_iff_eq] at h
        rcases h with h | h
        · rw [h]; exact hi
        · cases ho : l.toArray[j]? with
          | none => rw [ho] at h; cases h
          | some o =>
            rw [ho] at h
            obtain ⟨ed, he, h2⟩ := Array.any_eq_true'.1 h
            simp only [Bool.and_eq_true] at h2
            have h3 := ih ed.on h2.2
            cases hv : listed.getD j false with
            | false => rfl
            | true => rw [hc j o ho hv ed he h2.1] at h3; cases h3
      · rw [List.getElem?_eq_none (by simp; omega)] at h
        cases h
/-- An operation may be taken first, if it yields its value in every world that meets S1; S gives S1 as long as it has not come up. -/
theorem wpAnyT_first {i : Nat} {oi : Oper} {v : Value} (his : i ≠ s) (hi : l.toArray[i]? = some oi) (hsel : ∀ (j : Nat) (o : Oper) cs b, l.toArray[j]? = some o → o.op ≠ .select cs b)
    (hQ : ∀ c a w, Q (.panic c) (a.put oi.dst v) w → Q (.panic c) a w) (S1 : World → Prop) (hS1 : ∀ listed w, Closed md l listed → listed.getD i false = false → S0 w → (listed.getD s false = false → S w) → S1 w) :
    ∀ (fuel : Nat) (listed : Array Bool) (a : Act) (w : World), Closed md l listed →
      (∀ j oj, l.toArray[j]? = some oj → j ≠ i → listed.getD j true = false → (∀ e ∈ oj.after, Region.binds md e = true → e.on ≠ i) → oi.apart l.toArray oj = true) →
      i ∈ Region.ready md l.toArray listed → YieldsIf P l.toArray S1 oi v a → S0 w → (listed.getD s false = false → S w) →
      wpAnyT P md l Q S0 S s fuel (listed.setIfInBounds i true) (a.put oi.dst v) w → wpAnyT P md l Q S0 S s (fuel + 1) listed a w := by
  have un : ∀ {listed : Array Bool}, listed.getD i true = false → listed.getD i false = false := fun {listed} h => by
    rcases Nat.lt_or_ge i listed.size with h' | h'
    · simp [h'] at h ⊢; exact h
    · simp [Array.getElem?_eq_none h'] at h
  intro fuel
  induction fuel with
  | zero =>
    intro listed a w hc _ hr hy hS0 hS H
    refine ⟨fun h => (by rw [h] at hr; cases hr), fun j hj => ?_⟩
    by_cases hji : j = i
    · subst hji
      exact hy.wpOp hi (hS1 listed w hc (un (mem_ready.1 hr).1) hS0 hS) ⟨⟨hS0, fun h => hS (by rwa [getD_set_ne false his] at h)⟩, H⟩
    · have := ready_mono hj hji
      rw [H.1] at this
      cases this
  | succ fuel ih =>
    intro listed a w hc hfree hr hy hS0 hS H
    refine ⟨fun h => (by rw [h] at hr; cases hr), fun j hj => ?_⟩
    by_cases hji : j = i
    · subst hji; exact hy.wpOp hi (hS1 listed w hc (un (mem_ready.1 hr).1) hS0 hS) ⟨⟨hS0, fun h => hS (by rwa [getD_set_ne false his] at h)⟩, H⟩
    · have h1 := H.2 j (ready_mono hj hji)
      obtain ⟨hjun, oj, hoj, hall⟩ := mem_ready.1 hj
      have hnot : ∀ e ∈ oj.after, Region.binds md e = true → e.on ≠ i := fun e he hb heq => by
        have h1 := hall e he hb
        rw [heq, un (mem_ready.1 hr).1] at h1
        cases h1
      have h2 := wpOp_putIf hoj (hfree j oj hoj hji hjun hnot) (fun cs b => hsel i oi cs b hi) (fun cs b => hsel j oj cs b hoj) hQ hy h1
      have hfree' : ∀ k ok, l.toArray[k]? = some ok → k ≠ i → (listed.setIfInBounds j true).getD k true = false →
          (∀ e ∈ ok.after, Region.binds md e = true → e.on ≠ i) → oi.apart l.toArray ok = true := fun k ok hk hki hun hno => by
        refine hfree k ok hk hki ?_ hno
        by_cases hjk : j = k
        · subst hjk; exact hjun
        · rw [getD_set_ne true hjk] at hun; exact hun
      have comm : (listed.setIfInBounds i true).setIfInBounds j true = (listed.setIfInBounds j true).setIfInBounds i true := Array.setIfInBounds_comm _ _ (Ne.symm hji)
      refine wpOp_mono (fun a' w' h3 => ?_) h2
      obtain ⟨g1, ⟨g0, g2⟩, g3⟩ := h3
      rw [comm] at g2 g3
      have hlive : (listed.setIfInBounds j true).getD s false = false → S w' := fun h0 => g2 (by rw [getD_set_ne false his]; exact h0)
      exact ⟨⟨g0, hlive⟩, ih (listed.setIfInBounds j true) a' w' (hc.set hj) hfree' (ready_mono hr (Ne.symm hji)) g1 g0 hlive g3⟩
/-! ### The moves of a walk -/
theorem drop_get {i : Nat} {oi : Oper} {rest : List Oper} (h : l.drop i = oi :: rest) : l.toArray[i]? = some oi := by
  have := congrArg (·[0]?) h
  simpa using this
/-- Take number i, that reads (number s waits for it). -/
theorem wpAnyT_take (i : Nat) {oi : Oper} {rest : List Oper} {v : Value} {fuel : Nat} {listed : Array Bool} {a : Act} {w : World} (hd : l.drop i = oi :: rest)
    (hs : (Region.noSelect l.toArray && Region.free md l.toArray listed i && (Region.ready md l.toArray listed).contains i && closedB md l listed && (upB md l i l.length).getD s false && i != s && !listed.getD s false) = true)
    (hQ : ∀ c a w, Q (.panic c) (a.put oi.dst v) w → Q (.panic c) a w) (hy : YieldsIf P l.toArray S oi v a) (hS : S0 w ∧ S w)
    (h : wpAnyT P md l Q S0 S s fuel (listed.setIfInBounds i true) (a.put oi.dst v) w) : wpAnyT P md l Q S0 S s (fuel + 1) listed a w := by
  simp only [Bool.and_eq_true, bne_iff_ne, ne_eq, Bool.not_eq_true'] at hs
  obtain ⟨⟨⟨⟨⟨⟨h1, h2⟩, h3⟩, h4⟩, h5⟩, h6⟩, h7⟩ := hs
  exact wpAnyT_first h6 (drop_get hd) (Region.noSelect_spec h1) hQ S (fun listed' w' hc hu _ hl => hl (upB_spec hc hu _ _ h5)) fuel listed a w (closedB_spec h4) (Region.free_spec (drop_get hd) h2) (by simpa using h3) hy hS.1 (fun _ => hS.2) h
/-- Take number i, that reads what stays. -/
theorem wpAnyT_stay (i : Nat) {oi : Oper} {rest : List Oper} {v : Value} {fuel : Nat} {listed : Array Bool} {a : Act} {w : World} (hd : l.drop i = oi :: rest)
    (hs : (Region.noSelect l.toArray && Region.free md l.toArray listed i && (Region.ready md l.toArray listed).contains i && closedB md l listed && i != s) = true)
    (hQ : ∀ c a w, Q (.panic c) (a.put oi.dst v) w → Q (.panic c) a w) (hy : YieldsIf P l.toArray S0 oi v a) (hS : S0 w ∧ (listed.getD s false = false → S w))
    (h : wpAnyT P md l Q S0 S s fuel (listed.setIfInBounds i true) (a.put oi.dst v) w) : wpAnyT P md l Q S0 S s (fuel + 1) listed a w := by
  simp only [Bool.and_eq_true, bne_iff_ne, ne_eq] at hs
  obtain ⟨⟨⟨⟨h1, h2⟩, h3⟩, h4⟩, h6⟩ := hs
  exact wpAnyT_first h6 (drop_get hd) (Region.noSelect_spec h1) hQ _ (fun _ _ _ _ h0 _ => h0) fuel listed a w (closedB_spec h4) (Region.free_spec (drop_get hd) h2) (by simpa using h3) hy hS.1 hS.2 h
/-- One alone may come up: it is carried out, S is shown behind it. -/
theorem wpAnyT_one (i : Nat) {oi : Oper} {rest : List Oper} {fuel : Nat} {listed : Array Bool} {a : Act} {w : World} (hd : l.drop i = oi :: rest) (hr : Region.ready md l.toArray listed = [i])
    (h : ∀ K : Act → World → Prop, Shut (∀ a w, S0 w ∧ S w → (S0 w ∧ S w → wpAnyT P md l Q S0 S s fuel (listed.setIfInBounds i true) a w) → K a w) → if Region.wanted oi (yielded l.toArray a.tmps) = true then Oper.wp P oi a w K Q else K (a.put oi.dst undef) w) :
    wpAnyT P md l Q S0 S s (fuel + 1) listed a w := by
  refine ⟨fun h0 => (by rw [hr] at h0; cases h0), fun j hj => ?_⟩
  rw [hr] at hj
  obtain rfl : j = i := by simpa using hj
  exact wpOp_step (drop_get hd) (fun K hK => h K (fun a w hS hW => hK a w ⟨⟨hS.1, fun _ => hS.2⟩, hW hS⟩))
/-- Two may come up. -/
theorem wpAnyT_two (i j : Nat) {oi oj : Oper} {rest rest' : List Oper} {fuel : Nat} {listed : Array Bool} {a : Act} {w : World} (hd : l.drop i = oi :: rest) (hd' : l.drop j = oj :: rest') (hr : Region.ready md l.toArray listed = [i, j])
    (h : ∀ K : Act → World → Prop, Shut (∀ a w, S0 w ∧ S w → (S0 w ∧ S w → wpAnyT P md l Q S0 S s fuel (listed.setIfInBounds i true) a w) → K a w) → if Region.wanted oi (yielded l.toArray a.tmps) = true then Oper.wp P oi a w K Q else K (a.put oi.dst undef) w)
    (h' : ∀ K : Act → World → Prop, Shut (∀ a w, S0 w ∧ S w → (S0 w ∧ S w → wpAnyT P md l Q S0 S s fuel (listed.setIfInBounds j true) a w) → K a w) → if Region.wanted oj (yielded l.toArray a.tmps) = true then Oper.wp P oj a w K Q else K (a.put oj.dst undef) w) :
    wpAnyT P md l Q S0 S s (fuel + 1) listed a w := by
  refine ⟨fun h0 => (by rw [hr] at h0; cases h0), fun q hq => ?_⟩
  rw [hr] at hq
  rcases List.mem_cons.1 hq with rfl | hq
  · exact wpOp_step (drop_get hd) (fun K hK => h K (fun a w hS hW => hK a w ⟨⟨hS.1, fun _ => hS.2⟩, hW hS⟩))
  · obtain rfl : q = j := by simpa using hq
    exact wpOp_step (drop_get hd') (fun K hK => h' K (fun a w hS hW => hK a w ⟨⟨hS.1, fun _ => hS.2⟩, hW hS⟩))
/-- The same, the late operation itself, or one behind it. -/
theorem wpAnyT_last (i : Nat) {oi : Oper} {rest : List Oper} {fuel : Nat} {listed : Array Bool} {a : Act} {w : World} (hd : l.drop i = oi :: rest) (hr : Region.ready md l.toArray listed = [i]) (hs : (listed.setIfInBounds i true).getD s false = true)
    (h : ∀ K : Act → World → Prop, Shut (∀ a w, S0 w → (S0 w → wpAnyT P md l Q S0 S s fuel (listed.setIfInBounds i true) a w) → K a w) → if Region.wanted oi (yielded l.toArray a.tmps) = true then Oper.wp P oi a w K Q else K (a.put oi.dst undef) w) :
    wpAnyT P md l Q S0 S s (fuel + 1) listed a w := by
  refine ⟨fun h0 => (by rw [hr] at h0; cases h0), fun j hj => ?_⟩
  rw [hr] at hj
  obtain rfl : j = i := by simpa using hj
  exact wpOp_step (drop_get hd) (fun K hK => h K (fun a w hS hW => hK a w ⟨⟨hS, fun h0 => absurd (h0.symm.trans hs) (by decide)⟩, hW hS⟩))
theorem wpAnyT_done {listed : Array Bool} {a : Act} {w : World} (hr : Region.ready md l.toArray listed = []) (h : Q .normal a w) : ∀ fuel, wpAnyT P md l Q S0 S s fuel listed a w
  | 0 => ⟨hr, h⟩
  | _ + 1 => ⟨fun _ => h, by rw [hr]; simp⟩
theorem wp_region_late {id : Nat} {a : Act} {w : World} (S0 S : World → Prop) (s n : Nat) (hm : P.follows .mixedOrders = true) (hn : l.length = n) (hS : S0 w.drew ∧ S w.drew)
    (h : ∀ wd, wd = w.drew → S0 wd ∧ S wd → wpAnyT P .any l Q S0 S s n (Array.replicate n false) a wd) : (Code.region id l.toArray true).wp P Q a w :=
  wp_region_any hm (by subst hn; simpa using wpAny_of_late _ _ _ _ (h _ rfl hS))
end
end Go.Proofs.YtlnneacgllhdhaaGreatDoor
end
section
namespace Go.Proofs.YtlnneacgllhdhaaGreatDoor.OctMath
theorem rdF_one (cs : List Nat) : ∀ i acc, (∀ x ∈ cs, x < 256) → (rdF cs i acc).2.2 = 0 →
    ∃ V, (rdF cs i acc).1 = acc + V * 128 ^ i ∧ (rdF cs i acc).2.1 = i + (putN V).length ∧ cs.take (putN V).length = putN V ∧ (putN V).length ≤ cs.length ∧ (0 < i → V ≠ 0) := by
  induction cs with
  | nil => intro i acc _ h; simp [rdF] at h
  | cons c cs ih =>
    intro i acc hx
    rw [rdF]
    by_cases hbad : (i = 9 ∧ 1 < c) ∨ (0 < i ∧ c = 0)
    · rw [if_pos hbad]; intro h; simp at h
    · rw [if_neg hbad]
      by_cases hc : c < 128
      · rw [if_pos hc]; intro _
        refine ⟨c, by rw [Nat.mod_eq_of_lt hc], by rw [putN_small hc]; rfl, by rw [putN_small hc]; rfl, by rw [putN_small hc]; simp, fun hi e => hbad (.inr ⟨hi, e⟩)⟩
      · rw [if_neg hc]; intro h
        obtain ⟨V, h1, h2, h3, h4, h5⟩ := ih (i + 1) (acc + c % 128 * 128 ^ i) (fun x hx' => hx x (List.mem_cons_of_mem _ hx')) h
        have hV := h5 (by omega)
        have hc2 := hx c (List.mem_cons_self ..)
        have e : putN (c % 128 + 128 * V) = c :: putN V := by
          rw [putN_big (by omega), show (c % 128 + 128 * V) % 128 + 128 = c from by omega, show (c % 128 + 128 * V) / 128 = V from by omega]
        refine ⟨c % 128 + 128 * V, ?_, ?_, ?_, ?_, fun _ => by omega⟩
        · rw [h1, Nat.pow_succ, Nat.add_mul, Nat.mul_comm (128 ^ i) 128, ← Nat.mul_assoc, Nat.mul_comm V 128, Nat.add_assoc]
        · rw [h2, e]; simp; omega
        · rw [e]; simp [h3]
        · rw [e]; simp; exact h4
theorem rdF_put (n : Nat) : ∀ i acc rest, n * 128 ^ i < 18446744073709551616 → (0 < i → n ≠ 0) → i ≤ 9 →
    rdF (putN n ++ rest) i acc = (acc + n * 128 ^ i, i + (putN n).length, 0) := by
  induction n using Nat.strongRecOn with
  | _ n ih =>
    intro i acc rest hn h0 hi
    by_cases h : n < 128
    · rw [putN_small h, List.singleton_append, rdF]
      have hbad : ¬ ((i = 9 ∧ 1 < n) ∨ (0 < i ∧ n = 0)) := by
        rintro (⟨rfl, h1⟩ | ⟨h1, h2⟩)
        · omega
        · exact h0 h1 h2
      rw [if_neg hbad, if_pos h, Nat.mod_eq_of_lt h]; rfl
    · have hi9 : i < 9 := by
        rcases Nat.lt_or_ge i 9 with h1 | h1
        · exact h1
        · obtain rfl : i = 9 := by omega
          omega
      rw [putN_big h, List.cons_append, rdF]
      have hbad : ¬ ((i = 9 ∧ 1 < n % 128 + 128) ∨ (0 < i ∧ n % 128 + 128 = 0)) := by omega
      rw [if_neg hbad, if_neg (by omega)]
      have e : (n / 128) * 128 ^ (i + 1) = (n / 128 * 128) * 128 ^ i := by rw [Nat.pow_succ, Nat.mul_comm (128 ^ i) 128, ← Nat.mul_assoc]
      have le : (n / 128 * 128) * 128 ^ i ≤ n * 128 ^ i := Nat.mul_le_mul_right _ (by omega)
      rw [ih (n / 128) (by omega) (i + 1) _ rest (by rw [e]; omega) (by omega) (by omega), e]
      have e2 : (n % 128 + 128) % 128 = n % 128 := by omega
      rw [e2]
      have e3 : acc + n % 128 * 128 ^ i + n / 128 * 128 * 128 ^ i = acc + n * 128 ^ i := by
        rw [Nat.add_assoc, ← Nat.add_mul, show n % 128 + n / 128 * 128 = n from by omega]
      rw [e3]
      simp only [List.length_cons]
      rw [show i + 1 + (putN (n / 128)).length = i + ((putN (n / 128)).length + 1) from by omega]
/-- What Number answers, where it answers: one writing. -/
theorem rdN_one (bs : List Nat) (at_ : Int) (h : ∀ x ∈ bs, x < 256) (he : (rdN bs at_).2.2 = 0) :
    ∃ k : Nat, at_ = k ∧ (rdN bs at_).2.1 = ((k + (putN (rdN bs at_).1).length : Nat) : Int) ∧ k + (putN (rdN bs at_).1).length ≤ bs.length ∧
      (bs.drop k).take (putN (rdN bs at_).1).length = putN (rdN bs at_).1 := by
  unfold rdN at he ⊢
  by_cases hb : at_ < 0 ∨ (bs.length : Int) < at_
  · rw [if_pos hb] at he; simp at he
  · rw [if_neg hb] at he ⊢
    obtain ⟨k, rfl⟩ := Int.eq_ofNat_of_zero_le (show 0 ≤ at_ by omega)
    simp only [Int.toNat_natCast] at he ⊢
    by_cases hr : (rdF (bs.drop k) 0 0).2.2 = 0
    · rw [if_pos hr]
      obtain ⟨V, h1, h2, h3, h4, _⟩ := rdF_one (bs.drop k) 0 0 (fun x hx => h x (List.mem_of_mem_drop hx)) hr
      simp only [Nat.pow_zero, Nat.mul_one, Nat.zero_add] at h1 h2
      refine ⟨k, rfl, ?_, ?_, ?_⟩
      · simp only [h1, h2]; omega
      · simp only [h1]; rw [List.length_drop] at h4; omega
      · simp only [h1]; exact h3
    · rw [if_neg hr] at he; exact absurd he hr
theorem rdN_put (pre : List Nat) (n : Nat) (rest : List Nat) (hn : n < 18446744073709551616) :
    rdN (pre ++ (putN n ++ rest)) (pre.length : Nat) = (n, ((pre.length + (putN n).length : Nat) : Int), 0) := by
  unfold rdN
  rw [if_neg (by simp; omega)]
  simp only [Int.toNat_natCast, List.drop_left]
  rw [rdF_put n 0 0 rest (by simpa using hn) (by omega) (by omega)]
  simp
theorem zz_unz (n : Nat) : zz (unz n) = n := by
  unfold zz unz
  split <;> split <;> omega
theorem unz_zz (i : Int) : unz (zz i) = i := by
  unfold zz unz
  split <;> split <;> omega
/-- What Bytes answers, where it answers: one writing. -/
theorem rdB_one (bs : List Nat) (at_ most : Int) (h : ∀ x ∈ bs, x < 256) (he : (rdB bs at_ most).2.2 = 0) :
    ∃ k : Nat, at_ = k ∧ (rdB bs at_ most).2.1 = ((k + (putN (rdB bs at_ most).1.length ++ (rdB bs at_ most).1).length : Nat) : Int) ∧
      k + (putN (rdB bs at_ most).1.length ++ (rdB bs at_ most).1).length ≤ bs.length ∧
      (bs.drop k).take (putN (rdB bs at_ most).1.length ++ (rdB bs at_ most).1).length = putN (rdB bs at_ most).1.length ++ (rdB bs at_ most).1 := by
  unfold rdB at he ⊢
  simp only at he ⊢
  by_cases h1 : (rdN bs at_).2.2 ≠ 0
  · rw [if_pos h1] at he; exact absurd he h1
  · rw [if_neg h1] at he ⊢
    by_cases h2 : most < 0 ∨ most < ((rdN bs at_).1 : Int) ∨ (bs.length : Int) - (rdN bs at_).2.1 < ((rdN bs at_).1 : Int)
    · rw [if_pos h2] at he; simp at he
    · rw [if_neg h2]
      obtain ⟨k, hk, e1, e2, e3⟩ := rdN_one bs at_ h (by omega)
      obtain ⟨V, eV⟩ : ∃ V, (rdN bs at_).1 = V := ⟨_, rfl⟩
      rw [eV] at e1 e2 e3 h2 ⊢
      rw [e1] at h2 ⊢
      simp only [Int.toNat_natCast]
      have hl : ((bs.drop (k + (putN V).length)).take V).length = V := by rw [List.length_take, List.length_drop]; omega
      refine ⟨k, hk, ?_, ?_, ?_⟩
      · rw [List.length_append, hl]; omega
      · rw [List.length_append, hl]; omega
      · rw [List.length_append, hl, List.take_add, e3, List.drop_drop]
end Go.Proofs.YtlnneacgllhdhaaGreatDoor.OctMath
end
