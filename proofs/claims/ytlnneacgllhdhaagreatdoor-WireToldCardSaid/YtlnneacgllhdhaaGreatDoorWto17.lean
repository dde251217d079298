/-
  next, Next: a frame at the head of a stream, at a place of it; Next: a frame at a place of a stream; sealed, Frame: bytes are framed; ROWS OF ENTRIES: a whole struct of a row read; an entry put; what stands at an entry's place. (printed by gen_; MESSAGES IN MEMORY; a struct stored in the middle of a block; rows of entries that grow. (joined out of WirF3, WirF4, WirF5, PaE2, WirG1 by shake.py)
-/
import Derived.Deep.Cut
import Derived.Great.BuildSlice
import Derived.Test.YtlnneacgllhdhaaGreatDoorWto16
import Derived.Test.YtlnneacgllhdhaaGreatDoorWto14
section
namespace Go.Proofs.YtlnneacgllhdhaaGreatDoor
open Go.RowKit OctMath
set_option linter.unusedVariables false
set_option linter.unusedSimpArgs false
def RetNxt (xs : List Nat) (w : World) (e : Ending) (w' : World) : Prop := Below w.heap.size w w' ∧
  (((nxt xs).1 ≠ 0 ∧ e = .returned (.tuple #[.slice none 0 0, .iface 125 (.int .i64 ((nxt xs).1 : Int))])) ∨
   ((nxt xs).1 = 0 ∧ ∃ A1 n c1, e = .returned (.tuple #[.slice A1 n c1, .nilIface]) ∧ RdB w' A1 n c1 (nxt xs).2))
theorem nxt_bad {s : List Nat} (h : (opn s 4).1 ≠ 0) : nxt s = ((opn s 4).1, []) := by unfold nxt; rw [if_neg h]
theorem nxt_big {s : List Nat} (h : (opn s 4).1 = 0) (h2 : 4194304 < wordN (opn s 4).2.1) : nxt s = (60, []) := by unfold nxt; rw [if_pos h, if_pos h2]
theorem nxt_in {s : List Nat} (h : (opn s 4).1 = 0) (h2 : ¬ 4194304 < wordN (opn s 4).2.1) : nxt s = ((opn (opn s 4).2.2 (wordN (opn s 4).2.1)).1, (opn (opn s 4).2.2 (wordN (opn s 4).2.1)).2.1) := by unfold nxt; rw [if_pos h, if_neg h2]
theorem opn_parts {s : List Nat} {n : Nat} (h : (opn s n).1 = 0) : opn s n = (0, s.take n, s.drop (n + 4)) := by
  unfold opn at h ⊢
  split
  · rename_i h1; rw [if_pos h1] at h; cases h
  · rename_i h1
    rw [if_neg h1] at h
    split
    · rfl
    · rename_i h2; rw [if_neg h2] at h; cases h
set_option maxRecDepth 100000 in
set_option maxHeartbeats 4000000 in
theorem next_any (A : Option Addr) (l cap : Nat) (xs : List Nat) (w : World) (hr : Hid (RdB w A l cap xs)) : Calls Tryz.prog 37 #[.slice A l cap] w (RetNxt xs w) := by
  have HO1 := Lib.hid (opened_any A l cap xs 4 w hr (by omega))
  go_enter Tryz.func37, Tryz.ntmps37
  go_wp2_with fail
  refine HO1.out.mono ?_
  rintro e w1 ⟨hb, ⟨h0, rfl⟩ | ⟨h0, A1, c1, A2, l2, c2, rfl, r1, r2⟩⟩
  · have HN := Lib.hid (nxt_bad h0)
    have HB := Lib.hid hb
    have HH := Lib.hid h0
    clear hb h0 HO1
    generalize (opn xs 4).1 = er at *
    go_wp2
    go_ret2
    refine ⟨HB.out, .inl ?_⟩
    rw [HN.out]
    exact ⟨HH.out, rfl⟩
  · have hp := opn_parts h0
    have HB := Lib.hid hb
    have R1 := Lib.hid r1
    have R2 := Lib.hid r2
    have HW := Lib.hid (wword_any A1 4 c1 (xs.take 4) w1 (Lib.hid r1.1) r1.2.1 (Nat.le_refl _))
    have hbig := fun h => nxt_big h0 (by rw [hp]; exact h)
    have hin := fun h => nxt_in h0 (by rw [hp]; exact h)
    rw [hp] at hin
    simp only at hin
    have hw4 : (wordN (xs.take 4)) < 4294967296 := by
      have hy := r1.2.1
      have hl4 := r1.len
      match hx : xs.take 4, hl4 with
      | [a, b, c, d], _ =>
        have ha := hy a (by rw [hx]; simp)
        have hb' := hy b (by rw [hx]; simp)
        have hc := hy c (by rw [hx]; simp)
        have hd := hy d (by rw [hx]; simp)
        show a + 256 * b + 65536 * c + 16777216 * d < 4294967296
        omega
    generalize wordN (xs.take 4) = n at *
    clear hp h0 hb r1 r2 HO1
    by_cases hn : 4194304 < n
    · have HN := Lib.hid (hbig hn)
      have d1 : decide ((n : Int) > 4194304) = true := decide_eq_true (by omega)
      have d2 : decide (4194304 < n) = true := decide_eq_true hn
      clear hbig hin hn
      go_wp2_with (go_at_call 88; refine HW.out.mono ?_; rintro ev w2 ⟨rfl, rfl⟩)
      go_ret2
      refine ⟨HB.out.drew, .inl ?_⟩
      rw [HN.out]
      exact ⟨by decide, rfl⟩
    · have HN := Lib.hid (hin hn)
      have d1 : decide ((n : Int) > 4194304) = false := decide_eq_false (by omega)
      have d2 : decide (4194304 < n) = false := decide_eq_false hn
      have hle : n ≤ 4194304 := by omega
      have HO2 := Lib.hid (fun W h => opened_any A2 l2 c2 (xs.drop (4 + 4)) n W h hle)
      clear hbig hin hn
      go_wp2_with (go_at_call 88; refine HW.out.mono ?_; rintro ev w2 ⟨rfl, rfl⟩)
      refine (HO2.out _ (Lib.hid (R2.out.later ((Below.refl _ _).drew)))).mono ?_
      rintro e w3 ⟨hb, ⟨h0, rfl⟩ | ⟨h0, A3, c3, A4, l4, c4, rfl, r1, r2⟩⟩
      · have HB3 := Lib.hid (HB.out.drew.trans (hb.mono HB.out.size))
        have HH := Lib.hid h0
        clear hb h0
        generalize (opn (xs.drop (4 + 4)) n).1 = er at *
        go_wp2
        go_ret2
        refine ⟨HB3.out, .inl ?_⟩
        rw [HN.out]
        exact ⟨HH.out, rfl⟩
      · have HB3 := Lib.hid (HB.out.drew.trans (hb.mono HB.out.size))
        have R3 := Lib.hid r1
        have hp := opn_parts h0
        have HP := Lib.hid hp
        clear hb r1 r2 h0 hp
        go_wp2
        go_ret2
        refine ⟨HB3.out, .inr ?_⟩
        rw [HN.out, HP.out]
        exact ⟨rfl, A3, n, c3, rfl, R3.out⟩
end Go.Proofs.YtlnneacgllhdhaaGreatDoor
end
section
namespace Go.Proofs.YtlnneacgllhdhaaGreatDoor
open Go.RowKit OctMath
set_option linter.unusedVariables false
set_option linter.unusedSimpArgs false
/-- What stands at a place of a stream: the error, the bytes, the place behind. -/
def frAt (xs : List Nat) (at_ : Int) : Nat × List Nat × Int :=
  if at_ < 0 ∨ (xs.length : Int) < at_ then (2, [], 0) else if (nxt (xs.drop at_.toNat)).1 = 0 then (0, (nxt (xs.drop at_.toNat)).2, at_ + (nxt (xs.drop at_.toNat)).2.length + 12) else ((nxt (xs.drop at_.toNat)).1, [], 0)
theorem frAt_out {xs : List Nat} {at_ : Int} (h : at_ < 0 ∨ (xs.length : Int) < at_) : frAt xs at_ = (2, [], 0) := by unfold frAt; rw [if_pos h]
theorem frAt_ok {xs : List Nat} {p : Nat} (h : p ≤ xs.length) (h2 : (nxt (xs.drop p)).1 = 0) : frAt xs (p : Int) = (0, (nxt (xs.drop p)).2, (p : Int) + (nxt (xs.drop p)).2.length + 12) := by
  unfold frAt; rw [if_neg (by omega), Int.toNat_natCast, if_pos h2]
theorem frAt_bad {xs : List Nat} {p : Nat} (h : p ≤ xs.length) (h2 : (nxt (xs.drop p)).1 ≠ 0) : frAt xs (p : Int) = ((nxt (xs.drop p)).1, [], 0) := by
  unfold frAt; rw [if_neg (by omega), Int.toNat_natCast, if_neg h2]
theorem opn_room {s : List Nat} {n : Nat} (h : (opn s n).1 = 0) : n + 4 ≤ s.length := by
  unfold opn at h
  by_cases h1 : s.length < n + 4
  · rw [if_pos h1] at h; cases h
  · omega
theorem nxt_len {s : List Nat} (h : (nxt s).1 = 0) : (nxt s).2.length + 12 ≤ s.length := by
  by_cases h0 : (opn s 4).1 = 0
  · by_cases h1 : 4194304 < wordN (opn s 4).2.1
    · rw [nxt_big h0 h1] at h; cases h
    · rw [nxt_in h0 h1] at h ⊢
      have r1 := opn_room h0
      have r2 := opn_room h
      rw [opn_parts h]
      rw [opn_parts h0] at r2 ⊢
      simp only [List.length_drop, List.length_take] at r2 ⊢
      omega
  · rw [nxt_bad h0] at h; exact absurd h h0
def RetFr (xs : List Nat) (at_ : Int) (w : World) (e : Ending) (w' : World) : Prop := Below w.heap.size w w' ∧
  ∃ A1 n c1, e = .returned (.tuple #[.slice A1 n c1, .int .i64 (frAt xs at_).2.2, .int .i64 ((frAt xs at_).1 : Int)]) ∧ RdB w' A1 n c1 (frAt xs at_).2.1
theorem rdb_nil (w : World) : RdB w none 0 0 [] := ⟨Reads.none_, fun x h => (by cases h), Nat.le_refl _, (by unfold maxLen; omega)⟩
set_option maxRecDepth 100000 in
set_option maxHeartbeats 4000000 in
theorem Next_any (A : Option Addr) (l cap : Nat) (xs : List Nat) (at_ : Int) (w : World) (hr : Hid (RdB w A l cap xs)) (hg : Hid (GE w)) (hmx : l ≤ 140737488355328) :
    Calls Tryz.prog 15 #[.slice A l cap, .int .i64 at_] w (RetFr xs at_ w) := by
  have hl := hr.out.len
  by_cases ho : at_ < 0 ∨ (xs.length : Int) < at_
  · have HE := Lib.hid (frAt_out ho)
    rw [hl] at ho
    by_cases h1 : at_ < 0
    · have d1 : decide (at_ < 0) = true := decide_eq_true h1
      clear ho h1 hmx hl
      go_enter Tryz.func15, Tryz.ntmps15
      go_wp2
      go_ret3
      refine ⟨Below.refl _ _, none, 0, 0, ?_, ?_⟩
      · rw [HE.out]; rfl
      · rw [HE.out]; exact rdb_nil _
    · have d1 : decide (at_ < 0) = false := decide_eq_false h1
      have d2 : decide (at_ > (l : Int)) = true := decide_eq_true (by omega)
      have d3 : decide ((l : Int) < at_) = true := decide_eq_true (by omega)
      clear ho h1 hmx hl
      go_enter Tryz.func15, Tryz.ntmps15
      go_wp2
      go_ret3
      refine ⟨Below.refl _ _, none, 0, 0, ?_, ?_⟩
      · rw [HE.out]; rfl
      · rw [HE.out]; exact rdb_nil _
  · obtain ⟨p, rfl⟩ := Int.eq_ofNat_of_zero_le (show 0 ≤ at_ by omega)
    have d1 : decide ((p : Int) < 0) = false := decide_eq_false (by omega)
    have d2 : decide ((p : Int) > (l : Int)) = false := decide_eq_false (by omega)
    have d3 : decide ((l : Int) < (p : Int)) = false := decide_eq_false (by omega)
    have d4 : decide (l < p) = false := decide_eq_false (by omega)
    obtain ⟨A2, hs2, hr2⟩ := slice_tail Tryz.underlying33 Tryz.infoU8 hr.out.1 p (by omega) hr.out.2.2.1
    have hb2 : Byt (xs.drop p) := fun x hx => hr.out.2.1 x (List.mem_of_mem_drop hx)
    have HNX := Lib.hid (next_any A2 (l - p) (cap - p) (xs.drop p) w (Lib.hid ⟨hr2 w hr.out.1, hb2, by have := hr.out.2.2.1; omega, by have := hr.out.2.2.2; omega⟩))
    have HOK := Lib.hid (fun h => frAt_ok (xs := xs) (p := p) (by omega) h)
    have HBAD := Lib.hid (fun h => frAt_bad (xs := xs) (p := p) (by omega) h)
    have HLN := Lib.hid (fun h => nxt_len (s := xs.drop p) h)
    have hpl : p ≤ l := by omega
    have HDL := Lib.hid (show (xs.drop p).length = l - p from by rw [List.length_drop, hl])
    clear ho hr2 hb2 hl
    go_enter Tryz.func15, Tryz.ntmps15
    go_wp2_with fail
    refine HNX.out.mono ?_
    rintro e w1 ⟨hb, ⟨h0, rfl⟩ | ⟨h0, A1, n, c1, rfl, r1⟩⟩
    · have HE := Lib.hid (HBAD.out h0)
      have HB := Lib.hid hb
      clear hb h0 HBAD HOK HLN
      generalize (nxt (xs.drop p)).1 = er at *
      go_wp2_with (go_at_call 38; refine (wnumber_any (er : Int) _ (Lib.hid (hg.out.later HB.out))).mono ?_; rintro ev w2 ⟨rfl, hb⟩; have HB2 := Lib.hid (HB.out.trans (hb.mono HB.out.size)); clear hb)
      go_ret3
      refine ⟨HB2.out, none, 0, 0, ?_, ?_⟩
      · rw [HE.out]; rfl
      · rw [HE.out]; exact rdb_nil _
    · have HE := Lib.hid (HOK.out h0)
      have HB := Lib.hid hb
      have R1 := Lib.hid r1
      have hnl := r1.len
      have hln := HLN.out h0
      rw [HDL.out] at hln
      rw [hnl] at hln
      have HNL := Lib.hid hnl
      clear hb h0 HBAD HOK HLN r1 hnl
      generalize (nxt (xs.drop p)).2 = ys at *
      go_wp2_with (at_builtin
                   refine wpl_append rfl (.const (.slice none 0 0)) (.tmp 28) _ rfl w1 w1.heap.size 5 _ 1 1 Tryz.underlying33 Tryz.infoU8 rfl (by decide) (.slice none 0 0) 0 [] rfl ⟨by simp, .inl ⟨rfl, rfl⟩⟩ w1.heap.size A1 n c1 (ys.map bv) rfl R1.out.1 (bv_one ys) (by omega) (by decide) (Below.refl _ _) (Nat.le_refl _) ?_
                   intro v2 w2 hh
                   obtain ⟨A3, c3, rfl, hc3, hm3⟩ := own_slice hh.out.1
                   have HR3 := Lib.hid (Reads.of_own hh.out.1)
                   have HB2 := Lib.hid (HB.out.trans (hh.out.2.1.mono HB.out.size))
                   have HC3 := Lib.hid (And.intro hc3 hm3)
                   clear hh hc3 hm3)
      go_ret3
      refine ⟨HB2.out, A3, n, c3, ?_, ?_⟩
      · show Ending.returned (.tuple #[.slice A3 n c3, .int .i64 ((p : Int) + (n : Int) + 8 + 4), .int .i64 0]) = _
        rw [HE.out]
        simp only
        rw [HNL.out, show (p : Int) + (n : Int) + 8 + 4 = (p : Int) + (n : Int) + 12 from by omega]
        rfl
      · rw [HE.out]
        have h := HR3.out
        rw [Nat.zero_add, List.nil_append] at h
        have h2 := HC3.out
        rw [Nat.zero_add] at h2
        exact ⟨h, R1.out.2.1, h2.1, h2.2⟩
end Go.Proofs.YtlnneacgllhdhaaGreatDoor
end
section
namespace Go.Proofs.YtlnneacgllhdhaaGreatDoor
open Go.RowKit OctMath
set_option linter.unusedVariables false
set_option linter.unusedSimpArgs false
theorem row_grown {w w' : World} {row : Option Nat} (hg : w.grownBy w' row) {size n : Nat} {A : Option Addr} {xs : List Value} (hr : Reads w w.heap.size size A n xs) (hne : 0 < n → ∀ ad, A = some ad → some ad.block ≠ row) : Reads w' w'.heap.size size A n xs := by
  refine ⟨hr.1, fun hn => ?_⟩
  obtain ⟨ad, e, hb, hc⟩ := hr.2 hn
  refine ⟨ad, e, Nat.lt_of_lt_of_le hb hg.size, fun j u hu => ?_⟩
  rw [← hc j u hu]
  refine World.cell?_of_block ?_
  rw [block_of_add]
  exact hg.block _ hb (hne hn ad e)
theorem own_below {w w' : World} {base size n : Nat} {t : TypeId} {v : Value} {xs : List Value} (h : w.ownsRow base t size v n xs) (hb : Below w.heap.size w w') : w'.ownsRow base t size v n xs := by
  obtain ⟨hl, h0⟩ := h
  refine ⟨hl, ?_⟩
  rcases h0 with h0 | ⟨g, cap, cur, rfl, h1, h2, h3⟩
  · exact .inl h0
  · have hlt : g < w.heap.size := by
      rcases Nat.lt_or_ge g w.heap.size with h | h
      · exact h
      · rw [Array.getElem?_eq_none h] at h2; cases h2
    exact .inr ⟨g, cap, cur, rfl, h1, (hb.block g hlt).trans h2, h3⟩
def RetSeal (base : Nat) (w0 : World) (n : Nat) (xs : List Nat) (e : Ending) (w' : World) : Prop :=
  ∃ v, e = .returned v ∧ w'.ownsRow base 5 1 v n (xs.map bv) ∧ Below base w0 w' ∧ base ≤ w'.heap.size
set_option maxRecDepth 100000 in
set_option maxHeartbeats 4000000 in
theorem sealed_any (base : Nat) (w0 : World) (A : Option Addr) (n cap : Nat) (xs : List Nat) (B : Option Addr) (m c : Nat) (ys : List Nat) (w : World) (ho : Hid (w.ownsRow base 5 1 (.slice A n cap) n (xs.map bv))) (hr : Hid (Reads w w.heap.size 1 B m (ys.map bv))) (hne : Hid (0 < m → ∀ ad, B = some ad → some ad.block ≠ (Value.slice A n cap).ownBlock)) (hbel : Hid (Below base w0 w)) (hbase : Hid (base ≤ w.heap.size)) (hy : Byt ys) (hn : n + m + 4 ≤ 140737488355328) :
    Calls Tryz.prog 35 #[.slice A n cap, .slice B m c] w (RetSeal base w0 (n + m + 4) (xs ++ seal_ ys)) := by
  obtain ⟨i0, hi0, hz0, hz1, hz2⟩ := info_parts Tryz.infoU8
  have hml : ys.length = m := by simpa using hr.out.1
  have HML := Lib.hid hml
  have HSE := Lib.hid (show xs ++ seal_ ys = (xs ++ ys) ++ wordL (crc ys) from by unfold seal_; rw [List.append_assoc])
  have hcl := crc_lt hy
  go_enter Tryz.func35, Tryz.ntmps35
  go_wp2_with (first
    | (at_builtin
       refine wpList_append_any _ rfl (.tmp 5) (.tmp 6) _ rfl base 5 i0 (.int .u8 0) 1 1 Tryz.underlying33 hi0 hz0 hz1 hz2 rfl (by decide) (.slice A n cap) n (xs.map bv) rfl ho.out w.heap.size B m c (ys.map bv) rfl hr.out (bv_one ys) (by unfold maxLen; omega) (by omega) hbase.out ?_
       intro v1 w1 k1 k2 k3
       obtain ⟨A1, c1, rfl, -, -⟩ := own_slice k1
       have HO1 := Lib.hid k1
       have HR1 := Lib.hid (row_grown k2 hr.out hne.out)
       have HB1 := Lib.hid (bel_grown_own hbel.out hbase.out ho.out k2)
       have HZ1 := Lib.hid (Nat.le_trans hbase.out k2.size)
       clear k1 k2 k3)
    | (go_at_call 86; refine (crc_any B c m ys _ hy HML.out HR1.out (by unfold maxLen; omega)).mono ?_; rintro ev w2 ⟨rfl, hb⟩
       have HO2 := Lib.hid (own_below HO1.out hb)
       have HB2 := Lib.hid (HB1.out.trans (hb.mono HZ1.out))
       have HZ2 := Lib.hid (Nat.le_trans HZ1.out hb.size)
       clear hb)
    | (go_at_call 36; refine (word_any (crc ys) _ hcl).mono ?_; rintro ev w3 ⟨A3, n3, c3, rfl, r3, hb, -, -⟩
       obtain rfl : n3 = 4 := (by have := r3.out.1; simp [wordL] at this; omega)
       have HO3 := Lib.hid (own_below HO2.out hb)
       have HB3 := Lib.hid (HB2.out.trans (hb.mono HZ2.out))
       have HZ3 := Lib.hid (Nat.le_trans HZ2.out hb.size)
       have HR3 := r3
       clear hb r3)
    | (at_builtin
       refine wpl_append rfl (.tmp 7) (.tmp 10) _ rfl w0 base 5 _ 1 1 Tryz.underlying33 Tryz.infoU8 rfl (by decide) (.slice A1 (n + m) c1) (n + m) (xs.map bv ++ ys.map bv) rfl HO3.out w3.heap.size A3 4 c3 ((wordL (crc ys)).map bv) rfl HR3.out (bv_one _) (by omega) (by decide) HB3.out HZ3.out ?_
       intro v4 w4 hh
       obtain ⟨A4, c4, rfl, -, -⟩ := own_slice hh.out.1))
  go_ret
  refine ⟨_, rfl, ?_, hh.out.2.1, hh.out.2.2⟩
  rw [HSE.out, List.map_append, List.map_append]
  exact hh.out.1
end Go.Proofs.YtlnneacgllhdhaaGreatDoor
end
section
namespace Go.Proofs.YtlnneacgllhdhaaGreatDoor
open Go.RowKit OctMath
set_option linter.unusedVariables false
theorem fill_one {cs z : Array Value} (h0 : 0 < cs.size) (h : z.size = cs.size) : Instr.fill (fun i => some (i * cs.size, cs.size)) z [(0, .agg cs)] = some cs := by
  obtain ⟨r, h1, h2, h3⟩ := Great.fill_dense h0 [.agg cs] 0 z (fun v hv => by rw [List.mem_singleton.1 hv]; rfl) (by simp [h])
  have e : r = cs := by
    apply Array.ext_getElem?
    intro k
    rw [h3 k]
    by_cases hk : k < cs.size
    · rw [if_pos (by simpa using hk), Nat.div_eq_of_lt hk, Nat.mod_eq_of_lt hk]
      rfl
    · rw [if_neg (by simpa using hk), Array.getElem?_eq_none (by omega), Array.getElem?_eq_none (by omega)]
  rw [e] at h1
  exact h1
theorem Tryz.infoEnt : (Tryz.prog.info? 79).map (fun i => (i.zero.map (·.cells.size), i.size)) = some (some 21, 21) := by kernel_rfl
/-- A row of one entry is made. -/
theorem wp_build1 {op : Oper} {a : Act} {w : World} {K : Act → World → Prop} {Q : Exit → Act → World → Prop} (x : Operand) (ho : op.op = .buildSlice 24 1 #[(0, x)]) (cs : Array Value) (hcs : cs.size = 21) (hx : a.eval x = .agg cs)
    (h : K (a.put op.dst (.slice (some ⟨w.heap.size, 0, none⟩) 1 1)) (w.alloc (.cells cs 79))) : op.wp Tryz.prog a w K Q := by
  have hi := Tryz.infoEnt
  cases q1 : Tryz.prog.info? 79 with
  | none => rw [q1] at hi; cases hi
  | some ii =>
    rw [q1] at hi
    simp only [Option.map_some, Option.some.injEq, Prod.mk.injEq] at hi
    obtain ⟨hz, q3⟩ := hi
    obtain ⟨z, q2, hzs⟩ := Option.map_eq_some_iff.1 hz
    refine wp_buildSlice 24 79 1 #[(0, x)] ho cs ii z Tryz.underlying24 q1 q2 (by rw [q3]; decide) (by rw [q3]; decide) ?_ h
    rw [q3]
    have e1 : ((#[(0, x)] : Array (Nat × Operand)).map fun (i, x) => (i, a.eval x)).toList = [(0, Value.agg cs)] := by simp [hx]
    rw [e1, ← hcs]
    exact fill_one (by omega) (by simp [hcs])
end Go.Proofs.YtlnneacgllhdhaaGreatDoor
end
section
namespace Go.Proofs.YtlnneacgllhdhaaGreatDoor
open Go.RowKit OctMath
set_option linter.unusedVariables false
set_option linter.unusedSimpArgs false
/-! ### A struct in the middle of a block -/
def setL (cs : Array Value) (o : Nat) : List Value → Array Value
  | [] => cs
  | v :: vs => setL (cs.setIfInBounds o v) (o + 1) vs
theorem setCells_part (g : Nat) (t : TypeId) : ∀ (vs : List Value) (o : Nat) (w : World) (cs : Array Value), Blk w g t cs → Blk (w.setCells g o vs) g t (setL cs o vs) ∧ Only g w (w.setCells g o vs)
  | [], _, w, _, h => ⟨h, Only.refl _ _⟩
  | v :: vs, o, w, cs, h => by
    have := setCells_part g t vs (o + 1) (w.setCell ⟨g, o, none⟩ v) (cs.setIfInBounds o v) (h.set_ o v)
    exact ⟨this.1, (Only.set_ w g o v).trans this.2⟩
theorem wpl_store_part {P : Program} {ops : Array Oper} {rest : List Oper} {op : Oper} {a : Act} {w : World} {Q : Exit → Act → World → Prop} (hgd : op.guard = none) (ty : TypeId) (x y : Operand) (ho : op.op = .store ty x y) (g o : Nat) (t : TypeId) (cs cs' vs : Array Value) (hx : a.eval x = .pointer (some ⟨g, o, none⟩)) (hy : a.eval y = .agg vs)
    (hB : Blk w g t cs) (hs : o + vs.size ≤ cs.size) (he : setL cs o vs.toList = cs') (hi : (P.info? ty).map (·.size) = some vs.size) (h1 : vs.toList.all (·.oneCell') = true) (h : ∀ w', Hid (Blk w' g t cs') → Hid (Only g w w') → wpList P ops Q rest (a.put op.dst undef) w') : wpList P ops Q (op :: rest) a w := by
  have e := setCells_part g t vs.toList o w cs hB
  rw [he] at e
  refine wpList_plain hgd fun _ hK => wp_store_mid ty x y ho g o vs hx hy (fun j hj => ?_) hi (Array.all_eq_true_iff_forall_mem.2 (fun v hv => List.all_eq_true.1 h1 v (by simpa using hv))) (hK _ _ (h _ (Lib.hid e.1) (Lib.hid e.2)))
  rw [hB.cell]
  exact ⟨by rw [Array.getElem?_eq_getElem (by omega)]; rfl, hB.frozen _⟩
/-! ### Rows of entries -/
/-- A list of an element of a row that grows: it lies behind lo and off the row. -/
def LO (lo : Nat) (v : Value) (size : Nat) (A : Option Addr) (c k : Nat) (xs : List Value) (w : World) : Prop := Lst lo size A c k xs w ∧ Off v k A
theorem LO.grown {lo size c k : Nat} {v v' : Value} {A : Option Addr} {xs : List Value} {w w' : World} (h : LO lo v size A c k xs w) (hg : w.grownBy w' v.ownBlock) (hv : v'.ownBlock = v.ownBlock ∨ v'.ownBlock = some w.heap.size) : LO lo v' size A c k xs w' := by
  obtain ⟨h1, h2⟩ := h
  refine ⟨⟨⟨h1.rd.1, fun hn => ?_⟩, h1.lo, h1.kc, h1.cm⟩, fun hn ad e => ?_⟩
  · obtain ⟨ad, e, hb, hc⟩ := h1.rd.2 hn
    refine ⟨ad, e, by have := hg.size; omega, fun j u hu => ?_⟩
    rw [← hc j u hu]
    refine World.cell?_of_block ?_
    rw [block_of_add]
    exact hg.block _ hb (fun e' => h2 hn ad e e'.symm)
  · have := h1.lt hn e
    rcases hv with hv | hv
    · rw [hv]; exact h2 hn ad e
    · rw [hv]; intro e'; injection e' with e'; omega
theorem LO.keep {lo size c k g : Nat} {v : Value} {A : Option Addr} {xs : List Value} {w w' : World} (h : LO lo v size A c k xs w) (hk : Keep (Not g) w w') (hg : g < lo) : LO lo v size A c k xs w' := ⟨h.1.keep hk hg, h.2⟩
theorem LO.only {lo size c k y : Nat} {v : Value} {A : Option Addr} {xs : List Value} {w w' : World} (h : LO lo v size A c k xs w) (ho : Only y w w') (hy : y < lo) : LO lo v size A c k xs w' := ⟨h.1.only ho (h.1.apart_lo hy), h.2⟩
theorem LO.below {lo size c k : Nat} {v : Value} {A : Option Addr} {xs : List Value} {w w' : World} (h : LO lo v size A c k xs w) (hb : Below w.heap.size w w') : LO lo v size A c k xs w' := ⟨h.1.below hb, h.2⟩
/-- The entries of a row that grows. -/
structure SubE (lo : Nat) (v : Value) (m : EM) (w : World) : Prop where
  l1 : LO lo v 2 m.A m.c m.x.cmd.mem.length (mcells m.x.cmd.mem) w
  l2 : LO lo v 1 m.B m.d m.x.voters.length (m.x.voters.map iv) w
  l3 : LO lo v 1 m.E m.f m.x.learners.length (m.x.learners.map iv) w
  ok : EntOk m.x
def Ens (lo : Nat) (v : Value) (ms : List EM) (w : World) : Prop := ∀ m ∈ ms, SubE lo v m w
theorem Ens.nil (lo : Nat) (v : Value) (w : World) : Ens lo v [] w := fun m h => by cases h
theorem Ens.grown {lo : Nat} {v v' : Value} {ms : List EM} {w w' : World} (h : Ens lo v ms w) (hg : w.grownBy w' v.ownBlock) (hv : v'.ownBlock = v.ownBlock ∨ v'.ownBlock = some w.heap.size) : Ens lo v' ms w' := fun m hm => ⟨(h m hm).l1.grown hg hv, (h m hm).l2.grown hg hv, (h m hm).l3.grown hg hv, (h m hm).ok⟩
theorem Ens.keep {lo g : Nat} {v : Value} {ms : List EM} {w w' : World} (h : Ens lo v ms w) (hk : Keep (Not g) w w') (hg : g < lo) : Ens lo v ms w' := fun m hm => ⟨(h m hm).l1.keep hk hg, (h m hm).l2.keep hk hg, (h m hm).l3.keep hk hg, (h m hm).ok⟩
theorem Ens.only {lo y : Nat} {v : Value} {ms : List EM} {w w' : World} (h : Ens lo v ms w) (ho : Only y w w') (hy : y < lo) : Ens lo v ms w' := fun m hm => ⟨(h m hm).l1.only ho hy, (h m hm).l2.only ho hy, (h m hm).l3.only ho hy, (h m hm).ok⟩
theorem Ens.below {lo : Nat} {v : Value} {ms : List EM} {w w' : World} (h : Ens lo v ms w) (hb : Below w.heap.size w w') : Ens lo v ms w' := fun m hm => ⟨(h m hm).l1.below hb, (h m hm).l2.below hb, (h m hm).l3.below hb, (h m hm).ok⟩
theorem Ens.add {lo : Nat} {v : Value} {ms : List EM} {m : EM} {w : World} (h : Ens lo v ms w) (hm : SubE lo v m w) : Ens lo v (ms ++ [m]) w := fun x hx => by
  rcases List.mem_append.1 hx with hx | hx
  · exact h x hx
  · rw [List.mem_singleton.1 hx]; exact hm
/-- What a took of an entry has brought is off a row that was there. -/
theorem sub_of_ent {lo lo2 : Nat} {v u : Value} {x : EntT} {w : World} (h : vEnt lo2 x w u) (hl : lo ≤ lo2) (hv : ∀ k, v.ownBlock = some k → k < lo2) : ∃ m : EM, m.x = x ∧ u = .agg (emCs m).toArray ∧ SubE lo v m w := by
  obtain ⟨A1, c1, A2, c2, A3, c3, rfl, l1, l2, l3, hok⟩ := h
  have off : ∀ {size c k : Nat} {A : Option Addr} {xs : List Value}, Lst lo2 size A c k xs w → Off v k A := fun l h0 ad e e' => by have := l.lo h0 ad e; have := hv _ e'; omega
  exact ⟨⟨x, A1, c1, A2, c2, A3, c3⟩, rfl, rfl, ⟨l1.mono hl, off l1⟩, ⟨l2.mono hl, off l2⟩, ⟨l3.mono hl, off l3⟩, hok⟩
theorem CmdOk.w {x : CmdT} (h : CmdOk x) : CmdW x := ⟨h.kind, h.client, h.seq, h.key.1, h.size, h.sum, h.version, h.epoch, h.group, h.node, h.id, h.map.1, h.map.2.1⟩
theorem EntOk.w {x : EntT} (h : EntOk x) : EntW x := ⟨h.index, h.term, h.kind, h.cmd.w, h.vot.1, h.lea.1⟩
theorem SubE.in_ {lo : Nat} {v : Value} {m : EM} {w : World} (h : SubE lo v m w) : EmIn w m := ⟨h.l1.1.rd, h.l2.1.rd, h.l3.1.rd, h.ok.w⟩
theorem Tryz.infoEnB : (Tryz.prog.info? 79).map (fun i => (i.zero.map (·.cells.size), i.size, i.bytes)) = some (some 21, 21, 224) := by kernel_rfl
theorem Tryz.infoStr : (Tryz.prog.info? 9).map (fun i => (i.zero.map (·.cells.size), i.size, i.bytes)) = some (some 1, 1, 16) := by kernel_rfl
theorem info_parts' {P : Program} {e : TypeId} {k size bytes : Nat} (h : (P.info? e).map (fun i => (i.zero.map (·.cells.size), i.size, i.bytes)) = some (some k, size, bytes)) : ∃ i z, P.info? e = some i ∧ i.zero = some z ∧ z.cells.size = k ∧ i.size = size ∧ i.bytes = bytes := by
  cases q : P.info? e with
  | none => rw [q] at h; cases h
  | some i =>
    rw [q] at h
    simp only [Option.map_some, Option.some.injEq, Prod.mk.injEq] at h
    obtain ⟨h1, h2, h3⟩ := h
    obtain ⟨z, q2, hz⟩ := Option.map_eq_some_iff.1 h1
    exact ⟨i, z, rfl, q2, hz, h2, h3⟩
theorem own_keep {w w' : World} {base size n g : Nat} {t : TypeId} {v : Value} {xs : List Value} (h : w.ownsRow base t size v n xs) (hk : Keep (Not g) w w') (hg : g < base) : w'.ownsRow base t size v n xs :=
  h.kept (row := some g) ⟨hk.os, hk.tape, hk.output, hk.size, fun b hb hne => hk.block b (fun e => hne (by rw [e])) hb⟩ (.inr (own_apart h hg))
theorem own_lt {w : World} {base size n : Nat} {t : TypeId} {v : Value} {xs : List Value} (h : w.ownsRow base t size v n xs) {k : Nat} (e : v.ownBlock = some k) : base ≤ k ∧ k < w.heap.size := ⟨(h.lt k e).1, (h.lt k e).2⟩
/-! ### Messages in memory -/
/-- A message in memory: its content, and where its rows lie. -/
structure MG where
  x : MsgT
  es : List EM
  Ae : Option Addr
  ce : Nat
  Av : Option Addr
  cv : Nat
  Al : Option Addr
  cl : Nat
  Ad : Option Addr
  cd : Nat
  An : Option Addr
  cn : Nat
/-- a message's cells: the scalars, the rows' places. -/
def mgA (x : MsgT) (ne : Nat) (Ae : Option Addr) (ce : Nat) (Av : Option Addr) (cv : Nat) (Al : Option Addr) (cl : Nat) (Ad : Option Addr) (cd : Nat) (An : Option Addr) (cn : Nat) : Array Value :=
  #[.int .i64 x.kind, .int .i64 x.from_, .int .i64 x.to_, .int .u64 (x.term : Int), .int .u64 (x.index : Int), .int .u64 (x.logTerm : Int), .int .u64 (x.commit : Int), .int .u64 (x.ctx : Int), .bool x.okf, .bool x.force,
    .slice Ae ne ce, .slice Av x.vot.length cv, .slice Al x.lea.length cl, .int .u64 (x.head.id.ver : Int), .int .i64 x.head.id.idx, .int .u64 (x.head.id.ep : Int), .int .i64 x.head.k, .int .i64 x.head.n, .int .i64 x.head.size, .int .u32 (x.head.sum : Int),
    .slice Ad x.data.length cd, .int .u64 (x.client : Int), .int .u64 (x.seq : Int), .int .i64 x.op, .string (strOf x.key), .int .i64 x.code, .slice An x.names.length cn]
def mgCs (m : MG) : Array Value := mgA m.x m.es.length m.Ae m.ce m.Av m.cv m.Al m.cl m.Ad m.cd m.An m.cn
/-- The numbers of a message lie in their ranges. -/
structure MsgW (x : MsgT) : Prop where
  kind : I64 x.kind
  from_ : I64 x.from_
  to_ : I64 x.to_
  term : x.term < 18446744073709551616
  index : x.index < 18446744073709551616
  logTerm : x.logTerm < 18446744073709551616
  commit : x.commit < 18446744073709551616
  ctx : x.ctx < 18446744073709551616
  ents : ∀ y ∈ x.ents, EntW y
  vot : ∀ y ∈ x.vot, I64 y
  lea : ∀ y ∈ x.lea, I64 y
  head : HdOk x.head
  data : Byt x.data
  client : x.client < 18446744073709551616
  seq : x.seq < 18446744073709551616
  op : I64 x.op
  key : Byt x.key
  code : I64 x.code
  names : ∀ y ∈ x.names, Byt y
def stv (s : List Nat) : Value := .string (strOf s)
structure MgIn (w : World) (m : MG) : Prop where
  ents : Reads w w.heap.size 21 m.Ae m.es.length (m.es.flatMap emCs)
  each : ∀ e ∈ m.es, EmIn w e
  eq : m.x.ents = m.es.map (·.x)
  vot : Reads w w.heap.size 1 m.Av m.x.vot.length (m.x.vot.map iv)
  lea : Reads w w.heap.size 1 m.Al m.x.lea.length (m.x.lea.map iv)
  data : Reads w w.heap.size 1 m.Ad m.x.data.length (m.x.data.map bv)
  names : Reads w w.heap.size 1 m.An m.x.names.length (m.x.names.map stv)
  ok : MsgW m.x
end Go.Proofs.YtlnneacgllhdhaaGreatDoor
end
