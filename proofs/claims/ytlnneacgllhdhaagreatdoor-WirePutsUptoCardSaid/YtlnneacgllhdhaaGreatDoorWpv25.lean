/-
  next, Next: a frame at the head of a stream, at a place of it; Next: a frame at a place of a stream; sealed, Frame: bytes are framed; ROWS OF STRUCTS: a whole struct of a row read; a row of one struct made; what stands at an element's place; ROWS OF ENTRIES: a whole struct of a row read; an entry put; what stands at an entry's place. (printed by gen_. (joined out of WirF3, WirF4, WirF5, LibE, PaE2 by shake.py)
-/
import Derived.Great.BuildSlice
import Derived.Deep.Cut
import Derived.Test.YtlnneacgllhdhaaGreatDoorWpv24
import Derived.Test.YtlnneacgllhdhaaGreatDoorWpv01
import Derived.Test.YtlnneacgllhdhaaGreatDoorWpv21
import Derived.Test.YtlnneacgllhdhaaGreatDoorWpv22
section
namespace Go.Proofs.YtlnneacgllhdhaaGreatDoor
open Go.RowKit OctMath
set_option linter.unusedVariables false
set_option linter.unusedSimpArgs false
def RetNxt (xs : List Nat) (w : World) (e : Ending) (w' : World) : Prop := Below w.heap.size w w' ∧
  (((nxt xs).1 ≠ 0 ∧ e = .returned (.tuple #[.slice none 0 0, .iface 125 (.int .i64 ((nxt xs).1 : Int))])) ∨
   ((nxt xs).1 = 0 ∧ ∃ A1 n c1, e = .returned (.tuple #[.slice A1 n c1, .nilIface]) ∧ RdB w' A1 n c1 (nxt xs).2))
theorem nxt_bad {s : List Nat} (h : (opn s 4).1 ≠ 0) : nxt s = ((opn s 4).1, []) := by unfold nxt; rw [if_neg h]
theorem nxt_big {s : List Nat} (h : (opn s 4).1 = 0) (h2 : 4194304 < wordN (opn s 4).2.1) : nxt s = (60, []) := by unfold nxt; rw [if_pos h, if_pos h2]
theorem nxt_in {s : List Nat} (h : (opn s 4).1 = 0) (h2 : ¬ 4194304 < wordN (opn s 4).2.1) : nxt s = ((opn (opn s 4).2.2 (wordN (opn s 4).2.1)).1, (opn (opn s 4).2.2 (wordN (opn s 4).2.1)).2.1) := by unfold nxt; rw [if_pos h, if_neg h2]
theorem opn_parts {s : List Nat} {n : Nat} (h : (opn s n).1 = 0) : opn s n = (0, s.take n, s.drop (n + 4)) := by
  unfold opn at h ⊢
  split
  · rename_i h1; rw [if_pos h1] at h; cases h
  · rename_i h1
    rw [if_neg h1] at h
    split
    · rfl
    · rename_i h2; rw [if_neg h2] at h; cases h
set_option maxRecDepth 100000 in
set_option maxHeartbeats 4000000 in
theorem next_any (A : Option Addr) (l cap : Nat) (xs : List Nat) (w : World) (hr : Hid (RdB w A l cap xs)) : Calls Tryz.prog 37 #[.slice A l cap] w (RetNxt xs w) := by
  have HO1 := Lh (opened_any A l cap xs 4 w hr (by omega))
  go_enter Tryz.func37, Tryz.ntmps37
  go_wp2_with fail
  refine HO1.out.mono ?_
  rintro e w1 ⟨hb, ⟨h0, rfl⟩ | ⟨h0, A1, c1, A2, l2, c2, rfl, r1, r2⟩⟩
  · have HN := Lh (nxt_bad h0)
    have HB := Lh hb
    have HH := Lh h0
    clear hb h0 HO1
    generalize (opn xs 4).1 = er at *
    go_wp2
    go_ret2
    refine ⟨HB.out, .inl ?_⟩
    rw [HN.out]
    exact ⟨HH.out, rfl⟩
  · have hp := opn_parts h0
    have HB := Lh hb
    have R1 := Lh r1
    have R2 := Lh r2
    have HW := Lh (wword_any A1 4 c1 (xs.take 4) w1 (Lh r1.1) r1.2.1 (Nat.le_refl _))
    have hbig := fun h => nxt_big h0 (by rw [hp]; exact h)
    have hin := fun h => nxt_in h0 (by rw [hp]; exact h)
    rw [hp] at hin
    simp only at hin
    have hw4 : (wordN (xs.take 4)) < 4294967296 := by
      have hy := r1.2.1
      have hl4 := r1.len
      match hx : xs.take 4, hl4 with
      | [a, b, c, d], _ =>
        have ha := hy a (by rw [hx]; simp)
        have hb' := hy b (by rw [hx]; simp)
        have hc := hy c (by rw [hx]; simp)
        have hd := hy d (by rw [hx]; simp)
        show a + 256 * b + 65536 * c + 16777216 * d < 4294967296
        omega
    generalize wordN (xs.take 4) = n at *
    clear hp h0 hb r1 r2 HO1
    by_cases hn : 4194304 < n
    · have HN := Lh (hbig hn)
      have d1 : decide ((n : Int) > 4194304) = true := decide_eq_true (by omega)
      have d2 : decide (4194304 < n) = true := decide_eq_true hn
      clear hbig hin hn
      go_wp2_with (go_at_call 88; refine HW.out.mono ?_; rintro ev w2 ⟨rfl, rfl⟩)
      go_ret2
      refine ⟨HB.out.drew, .inl ?_⟩
      rw [HN.out]
      exact ⟨by decide, rfl⟩
    · have HN := Lh (hin hn)
      have d1 : decide ((n : Int) > 4194304) = false := decide_eq_false (by omega)
      have d2 : decide (4194304 < n) = false := decide_eq_false hn
      have hle : n ≤ 4194304 := by omega
      have HO2 := Lh (fun W h => opened_any A2 l2 c2 (xs.drop (4 + 4)) n W h hle)
      clear hbig hin hn
      go_wp2_with (go_at_call 88; refine HW.out.mono ?_; rintro ev w2 ⟨rfl, rfl⟩)
      refine (HO2.out _ (Lh (R2.out.later ((Below.refl _ _).drew)))).mono ?_
      rintro e w3 ⟨hb, ⟨h0, rfl⟩ | ⟨h0, A3, c3, A4, l4, c4, rfl, r1, r2⟩⟩
      · have HB3 := Lh (HB.out.drew.trans (hb.mono HB.out.size))
        have HH := Lh h0
        clear hb h0
        generalize (opn (xs.drop (4 + 4)) n).1 = er at *
        go_wp2
        go_ret2
        refine ⟨HB3.out, .inl ?_⟩
        rw [HN.out]
        exact ⟨HH.out, rfl⟩
      · have HB3 := Lh (HB.out.drew.trans (hb.mono HB.out.size))
        have R3 := Lh r1
        have hp := opn_parts h0
        have HP := Lh hp
        clear hb r1 r2 h0 hp
        go_wp2
        go_ret2
        refine ⟨HB3.out, .inr ?_⟩
        rw [HN.out, HP.out]
        exact ⟨rfl, A3, n, c3, rfl, R3.out⟩
end Go.Proofs.YtlnneacgllhdhaaGreatDoor
end
section
namespace Go.Proofs.YtlnneacgllhdhaaGreatDoor
open Go.RowKit OctMath
set_option linter.unusedVariables false
set_option linter.unusedSimpArgs false
def frAt (xs : List Nat) (at_ : Int) : Nat × List Nat × Int :=
  if at_ < 0 ∨ (xs.length : Int) < at_ then (2, [], 0) else if (nxt (xs.drop at_.toNat)).1 = 0 then (0, (nxt (xs.drop at_.toNat)).2, at_ + (nxt (xs.drop at_.toNat)).2.length + 12) else ((nxt (xs.drop at_.toNat)).1, [], 0)
theorem frAt_out {xs : List Nat} {at_ : Int} (h : at_ < 0 ∨ (xs.length : Int) < at_) : frAt xs at_ = (2, [], 0) := by unfold frAt; rw [if_pos h]
theorem frAt_ok {xs : List Nat} {p : Nat} (h : p ≤ xs.length) (h2 : (nxt (xs.drop p)).1 = 0) : frAt xs (p : Int) = (0, (nxt (xs.drop p)).2, (p : Int) + (nxt (xs.drop p)).2.length + 12) := by
  unfold frAt; rw [if_neg (by omega), Int.toNat_natCast, if_pos h2]
theorem frAt_bad {xs : List Nat} {p : Nat} (h : p ≤ xs.length) (h2 : (nxt (xs.drop p)).1 ≠ 0) : frAt xs (p : Int) = ((nxt (xs.drop p)).1, [], 0) := by
  unfold frAt; rw [if_neg (by omega), Int.toNat_natCast, if_neg h2]
theorem opn_room {s : List Nat} {n : Nat} (h : (opn s n).1 = 0) : n + 4 ≤ s.length := by
  unfold opn at h
  by_cases h1 : s.length < n + 4
  · rw [if_pos h1] at h; cases h
  · omega
theorem nxt_len {s : List Nat} (h : (nxt s).1 = 0) : (nxt s).2.length + 12 ≤ s.length := by
  by_cases h0 : (opn s 4).1 = 0
  · by_cases h1 : 4194304 < wordN (opn s 4).2.1
    · rw [nxt_big h0 h1] at h; cases h
    · rw [nxt_in h0 h1] at h ⊢
      have r1 := opn_room h0
      have r2 := opn_room h
      rw [opn_parts h]
      rw [opn_parts h0] at r2 ⊢
      simp only [List.length_drop, List.length_take] at r2 ⊢
      omega
  · rw [nxt_bad h0] at h; exact absurd h h0
def RetFr (xs : List Nat) (at_ : Int) (w : World) (e : Ending) (w' : World) : Prop := Below w.heap.size w w' ∧
  ∃ A1 n c1, e = .returned (.tuple #[.slice A1 n c1, .int .i64 (frAt xs at_).2.2, .int .i64 ((frAt xs at_).1 : Int)]) ∧ RdB w' A1 n c1 (frAt xs at_).2.1
theorem rdb_nil (w : World) : RdB w none 0 0 [] := ⟨Reads.none_, fun x h => (by cases h), Nat.le_refl _, (by unfold maxLen; omega)⟩
set_option maxRecDepth 100000 in
set_option maxHeartbeats 4000000 in
theorem Next_any (A : Option Addr) (l cap : Nat) (xs : List Nat) (at_ : Int) (w : World) (hr : Hid (RdB w A l cap xs)) (hg : Hid (GE w)) (hmx : l ≤ 140737488355328) :
    Calls Tryz.prog 15 #[.slice A l cap, .int .i64 at_] w (RetFr xs at_ w) := by
  have hl := hr.out.len
  by_cases ho : at_ < 0 ∨ (xs.length : Int) < at_
  · have HE := Lh (frAt_out ho)
    rw [hl] at ho
    by_cases h1 : at_ < 0
    · have d1 : decide (at_ < 0) = true := decide_eq_true h1
      clear ho h1 hmx hl
      go_enter Tryz.func15, Tryz.ntmps15
      go_wp2
      go_ret3
      refine ⟨Below.refl _ _, none, 0, 0, ?_, ?_⟩
      · rw [HE.out]; rfl
      · rw [HE.out]; exact rdb_nil _
    · have d1 : decide (at_ < 0) = false := decide_eq_false h1
      have d2 : decide (at_ > (l : Int)) = true := decide_eq_true (by omega)
      have d3 : decide ((l : Int) < at_) = true := decide_eq_true (by omega)
      clear ho h1 hmx hl
      go_enter Tryz.func15, Tryz.ntmps15
      go_wp2
      go_ret3
      refine ⟨Below.refl _ _, none, 0, 0, ?_, ?_⟩
      · rw [HE.out]; rfl
      · rw [HE.out]; exact rdb_nil _
  · obtain ⟨p, rfl⟩ := Int.eq_ofNat_of_zero_le (show 0 ≤ at_ by omega)
    have d1 : decide ((p : Int) < 0) = false := decide_eq_false (by omega)
    have d2 : decide ((p : Int) > (l : Int)) = false := decide_eq_false (by omega)
    have d3 : decide ((l : Int) < (p : Int)) = false := decide_eq_false (by omega)
    have d4 : decide (l < p) = false := decide_eq_false (by omega)
    obtain ⟨A2, hs2, hr2⟩ := slice_tail Tryz.underlying33 Tryz.infoU8 hr.out.1 p (by omega) hr.out.2.2.1
    have hb2 : Byt (xs.drop p) := fun x hx => hr.out.2.1 x (List.mem_of_mem_drop hx)
    have HNX := Lh (next_any A2 (l - p) (cap - p) (xs.drop p) w (Lh ⟨hr2 w hr.out.1, hb2, by have := hr.out.2.2.1; omega, by have := hr.out.2.2.2; omega⟩))
    have HOK := Lh (fun h => frAt_ok (xs := xs) (p := p) (by omega) h)
    have HBAD := Lh (fun h => frAt_bad (xs := xs) (p := p) (by omega) h)
    have HLN := Lh (fun h => nxt_len (s := xs.drop p) h)
    have hpl : p ≤ l := by omega
    have HDL := Lh (show (xs.drop p).length = l - p from by rw [List.length_drop, hl])
    clear ho hr2 hb2 hl
    go_enter Tryz.func15, Tryz.ntmps15
    go_wp2_with fail
    refine HNX.out.mono ?_
    rintro e w1 ⟨hb, ⟨h0, rfl⟩ | ⟨h0, A1, n, c1, rfl, r1⟩⟩
    · have HE := Lh (HBAD.out h0)
      have HB := Lh hb
      clear hb h0 HBAD HOK HLN
      generalize (nxt (xs.drop p)).1 = er at *
      go_wp2_with (go_at_call 38; refine (wnumber_any (er : Int) _ (Lh (hg.out.later HB.out))).mono ?_; rintro ev w2 ⟨rfl, hb⟩; have HB2 := Lh (HB.out.trans (hb.mono HB.out.size)); clear hb)
      go_ret3
      refine ⟨HB2.out, none, 0, 0, ?_, ?_⟩
      · rw [HE.out]; rfl
      · rw [HE.out]; exact rdb_nil _
    · have HE := Lh (HOK.out h0)
      have HB := Lh hb
      have R1 := Lh r1
      have hnl := r1.len
      have hln := HLN.out h0
      rw [HDL.out] at hln
      rw [hnl] at hln
      have HNL := Lh hnl
      clear hb h0 HBAD HOK HLN r1 hnl
      generalize (nxt (xs.drop p)).2 = ys at *
      go_wp2_with (at_builtin
                   refine wpl_append rfl (.const (.slice none 0 0)) (.tmp 28) _ rfl w1 w1.heap.size 5 _ 1 1 Tryz.underlying33 Tryz.infoU8 rfl (by decide) (.slice none 0 0) 0 [] rfl ⟨by simp, .inl ⟨rfl, rfl⟩⟩ w1.heap.size A1 n c1 (ys.map bv) rfl R1.out.1 (bv_one ys) (by omega) (by decide) (Below.refl _ _) (Nat.le_refl _) ?_
                   intro v2 w2 hh
                   obtain ⟨A3, c3, rfl, hc3, hm3⟩ := own_slice hh.out.1
                   have HR3 := Lh (Reads.of_own hh.out.1)
                   have HB2 := Lh (HB.out.trans (hh.out.2.1.mono HB.out.size))
                   have HC3 := Lh (And.intro hc3 hm3)
                   clear hh hc3 hm3)
      go_ret3
      refine ⟨HB2.out, A3, n, c3, ?_, ?_⟩
      · show Ending.returned (.tuple #[.slice A3 n c3, .int .i64 ((p : Int) + (n : Int) + 8 + 4), .int .i64 0]) = _
        rw [HE.out]
        simp only
        rw [HNL.out, show (p : Int) + (n : Int) + 8 + 4 = (p : Int) + (n : Int) + 12 from by omega]
        rfl
      · rw [HE.out]
        have h := HR3.out
        rw [Nat.zero_add, List.nil_append] at h
        have h2 := HC3.out
        rw [Nat.zero_add] at h2
        exact ⟨h, R1.out.2.1, h2.1, h2.2⟩
end Go.Proofs.YtlnneacgllhdhaaGreatDoor
end
section
namespace Go.Proofs.YtlnneacgllhdhaaGreatDoor
open Go.RowKit OctMath
set_option linter.unusedVariables false
set_option linter.unusedSimpArgs false
theorem row_grown {w w' : World} {row : Option Nat} (hg : w.grownBy w' row) {size n : Nat} {A : Option Addr} {xs : List Value} (hr : Reads w w.heap.size size A n xs) (hne : 0 < n → ∀ ad, A = some ad → some ad.block ≠ row) : Reads w' w'.heap.size size A n xs := by
  refine ⟨hr.1, fun hn => ?_⟩
  obtain ⟨ad, e, hb, hc⟩ := hr.2 hn
  refine ⟨ad, e, Nat.lt_of_lt_of_le hb hg.size, fun j u hu => ?_⟩
  rw [← hc j u hu]
  refine World.cell?_of_block ?_
  rw [block_of_add]
  exact hg.block _ hb (hne hn ad e)
theorem own_below {w w' : World} {base size n : Nat} {t : TypeId} {v : Value} {xs : List Value} (h : w.ownsRow base t size v n xs) (hb : Below w.heap.size w w') : w'.ownsRow base t size v n xs := by
  obtain ⟨hl, h0⟩ := h
  refine ⟨hl, ?_⟩
  rcases h0 with h0 | ⟨g, cap, cur, rfl, h1, h2, h3⟩
  · exact .inl h0
  · have hlt : g < w.heap.size := by
      rcases Nat.lt_or_ge g w.heap.size with h | h
      · exact h
      · rw [Array.getElem?_eq_none h] at h2; cases h2
    exact .inr ⟨g, cap, cur, rfl, h1, (hb.block g hlt).trans h2, h3⟩
def RetSeal (base : Nat) (w0 : World) (n : Nat) (xs : List Nat) (e : Ending) (w' : World) : Prop :=
  ∃ v, e = .returned v ∧ w'.ownsRow base 5 1 v n (xs.map bv) ∧ Below base w0 w' ∧ base ≤ w'.heap.size
set_option maxRecDepth 100000 in
set_option maxHeartbeats 4000000 in
theorem sealed_any (base : Nat) (w0 : World) (A : Option Addr) (n cap : Nat) (xs : List Nat) (B : Option Addr) (m c : Nat) (ys : List Nat) (w : World) (ho : Hid (w.ownsRow base 5 1 (.slice A n cap) n (xs.map bv))) (hr : Hid (Reads w w.heap.size 1 B m (ys.map bv))) (hne : Hid (0 < m → ∀ ad, B = some ad → some ad.block ≠ (Value.slice A n cap).ownBlock)) (hbel : Hid (Below base w0 w)) (hbase : Hid (base ≤ w.heap.size)) (hy : Byt ys) (hn : n + m + 4 ≤ 140737488355328) :
    Calls Tryz.prog 35 #[.slice A n cap, .slice B m c] w (RetSeal base w0 (n + m + 4) (xs ++ seal_ ys)) := by
  obtain ⟨i0, hi0, hz0, hz1, hz2⟩ := info_parts Tryz.infoU8
  have hml : ys.length = m := by simpa using hr.out.1
  have HML := Lh hml
  have HSE := Lh (show xs ++ seal_ ys = (xs ++ ys) ++ wordL (crc ys) from by unfold seal_; rw [List.append_assoc])
  have hcl := crc_lt hy
  go_enter Tryz.func35, Tryz.ntmps35
  go_wp2_with (first
    | (at_builtin
       refine wpList_append_any _ rfl (.tmp 5) (.tmp 6) _ rfl base 5 i0 (.int .u8 0) 1 1 Tryz.underlying33 hi0 hz0 hz1 hz2 rfl (by decide) (.slice A n cap) n (xs.map bv) rfl ho.out w.heap.size B m c (ys.map bv) rfl hr.out (bv_one ys) (by unfold maxLen; omega) (by omega) hbase.out ?_
       intro v1 w1 k1 k2 k3
       obtain ⟨A1, c1, rfl, -, -⟩ := own_slice k1
       have HO1 := Lh k1
       have HR1 := Lh (row_grown k2 hr.out hne.out)
       have HB1 := Lh (bel_grown_own hbel.out hbase.out ho.out k2)
       have HZ1 := Lh (Nat.le_trans hbase.out k2.size)
       clear k1 k2 k3)
    | (go_at_call 86; refine (crc_any B c m ys _ hy HML.out HR1.out (by unfold maxLen; omega)).mono ?_; rintro ev w2 ⟨rfl, hb⟩
       have HO2 := Lh (own_below HO1.out hb)
       have HB2 := Lh (HB1.out.trans (hb.mono HZ1.out))
       have HZ2 := Lh (Nat.le_trans HZ1.out hb.size)
       clear hb)
    | (go_at_call 36; refine (word_any (crc ys) _ hcl).mono ?_; rintro ev w3 ⟨A3, n3, c3, rfl, r3, hb, -, -⟩
       obtain rfl : n3 = 4 := (by have := r3.out.1; simp [wordL] at this; omega)
       have HO3 := Lh (own_below HO2.out hb)
       have HB3 := Lh (HB2.out.trans (hb.mono HZ2.out))
       have HZ3 := Lh (Nat.le_trans HZ2.out hb.size)
       have HR3 := r3
       clear hb r3)
    | (at_builtin
       refine wpl_append rfl (.tmp 7) (.tmp 10) _ rfl w0 base 5 _ 1 1 Tryz.underlying33 Tryz.infoU8 rfl (by decide) (.slice A1 (n + m) c1) (n + m) (xs.map bv ++ ys.map bv) rfl HO3.out w3.heap.size A3 4 c3 ((wordL (crc ys)).map bv) rfl HR3.out (bv_one _) (by omega) (by decide) HB3.out HZ3.out ?_
       intro v4 w4 hh
       obtain ⟨A4, c4, rfl, -, -⟩ := own_slice hh.out.1))
  go_ret
  refine ⟨_, rfl, ?_, hh.out.2.1, hh.out.2.2⟩
  rw [HSE.out, List.map_append, List.map_append]
  exact hh.out.1
end Go.Proofs.YtlnneacgllhdhaaGreatDoor
end
section
namespace Go.Proofs.YtlnneacgllhdhaaGreatDoor
open Go.RowKit
set_option linter.unusedVariables false
theorem load_at {P : Program} {w : World} {p : Addr} {ty : TypeId} {cs : List Value} {d : TypeDesc} (hc : ∀ j v, cs[j]? = some v → w.cell? (p.add j) = some v) (hu : P.underlying ty = some d) (hd : d.isRow = true) (hi : (P.info? ty).map (·.size) = some cs.length) :
    (loadVar ty p).run P w = .ok (.agg cs.toArray) w := by
  have hl : (loadCells p cs.length).run P w = .ok cs.toArray w := run_loadCells_list (P := P) w p cs hc
  cases hq : P.info? ty with
  | none => simp [hq] at hi
  | some i =>
    have hs : i.size = cs.length := by simpa [hq] using hi
    have hagg : (isAgg ty).run P w = .ok true w := by
      unfold isAgg
      rw [Sem.run_bind, run_underlying hu w]
      cases d <;> simp_all
    simp [loadVar, Sem.run_bind, hagg, sizeOf, typeInfo, hq, hs, hl]
theorem wpl_load_at {P : Program} {ops : Array Oper} {rest : List Oper} {op : Oper} {a : Act} {w : World} {Q : Exit → Act → World → Prop} (hgd : op.guard = none) (ty : TypeId) (x : Operand) (ho : op.op = .load ty x)
    (p : Addr) (cs : List Value) (d : TypeDesc) (hx : a.eval x = .pointer (some p)) (hc : ∀ j v, cs[j]? = some v → w.cell? (p.add j) = some v) (hu : P.underlying ty = some d) (hd : d.isRow = true) (hi : (P.info? ty).map (·.size) = some cs.length)
    (h : wpList P ops Q rest (a.put op.dst (.agg cs.toArray)) w) : wpList P ops Q (op :: rest) a w := by
  refine wpList_plain hgd fun K hK => ?_
  unfold Oper.wp execOp
  simp only [ho, hx, Instr.loadAt, Instr.sureAddr, Sem.run_bind, Sem.run_pure, Result.andThen_ok, load_at hc hu hd hi]
  exact hK _ _ h
theorem fill_one {cs z : Array Value} (h0 : 0 < cs.size) (h : z.size = cs.size) : Instr.fill (fun i => some (i * cs.size, cs.size)) z [(0, .agg cs)] = some cs := by
  obtain ⟨r, h1, h2, h3⟩ := Great.fill_dense h0 [.agg cs] 0 z (fun v hv => by rw [List.mem_singleton.1 hv]; rfl) (by simp [h])
  have e : r = cs := by
    apply Array.ext_getElem?
    intro k
    rw [h3 k]
    by_cases hk : k < cs.size
    · rw [if_pos (by simpa using hk), Nat.div_eq_of_lt hk, Nat.mod_eq_of_lt hk]
      rfl
    · rw [if_neg (by simpa using hk), Array.getElem?_eq_none (by omega), Array.getElem?_eq_none (by omega)]
  rw [e] at h1
  exact h1
theorem flat_get {α β : Type} {cells : α → List β} {size : Nat} (hl : ∀ a, (cells a).length = size) : ∀ (l : List α) (i : Nat) (hi : i < l.length) (j : Nat), j < size → (l.flatMap cells)[i * size + j]? = (cells l[i])[j]?
  | [], i, hi, _, _ => by simp at hi
  | p :: l, i, hi, j, hj => by
    rw [List.flatMap_cons]
    cases i with
    | zero => rw [Nat.zero_mul, Nat.zero_add, List.getElem?_append_left (by rw [hl]; exact hj)]; rfl
    | succ i =>
      rw [List.getElem?_append_right (by rw [hl, Nat.succ_mul]; omega), hl, show (i + 1) * size + j - size = i * size + j by rw [Nat.succ_mul]; omega]
      exact flat_get hl l i (by simpa using hi) j hj
/-! ### A struct in the middle of a block -/
def setL (cs : Array Value) (o : Nat) : List Value → Array Value
  | [] => cs
  | v :: vs => setL (cs.setIfInBounds o v) (o + 1) vs
theorem setL_lt (cs : Array Value) : ∀ (vs : List Value) (o i : Nat), i < o → (setL cs o vs)[i]? = cs[i]? := by
  intro vs
  induction vs generalizing cs with
  | nil => intro o i _; rfl
  | cons v vs ih => intro o i h; show (setL (cs.setIfInBounds o v) (o + 1) vs)[i]? = _; rw [ih _ _ _ (by omega), Array.getElem?_setIfInBounds_ne (by omega)]
theorem setL_ge (cs : Array Value) : ∀ (vs : List Value) (o i : Nat), o + vs.length ≤ i → (setL cs o vs)[i]? = cs[i]? := by
  intro vs
  induction vs generalizing cs with
  | nil => intro o i _; rfl
  | cons v vs ih => intro o i h; simp only [List.length_cons] at h; show (setL (cs.setIfInBounds o v) (o + 1) vs)[i]? = _; rw [ih _ _ _ (by omega), Array.getElem?_setIfInBounds_ne (by omega)]
theorem setCells_part (g : Nat) (t : TypeId) : ∀ (vs : List Value) (o : Nat) (w : World) (cs : Array Value), Blk w g t cs → Blk (w.setCells g o vs) g t (setL cs o vs) ∧ Only g w (w.setCells g o vs)
  | [], _, w, _, h => ⟨h, Only.refl _ _⟩
  | v :: vs, o, w, cs, h => by
    have := setCells_part g t vs (o + 1) (w.setCell ⟨g, o, none⟩ v) (cs.setIfInBounds o v) (h.set_ o v)
    exact ⟨this.1, (Only.set_ w g o v).trans this.2⟩
theorem wpl_store_part {P : Program} {ops : Array Oper} {rest : List Oper} {op : Oper} {a : Act} {w : World} {Q : Exit → Act → World → Prop} (hgd : op.guard = none) (ty : TypeId) (x y : Operand) (ho : op.op = .store ty x y) (g o : Nat) (t : TypeId) (cs cs' vs : Array Value) (hx : a.eval x = .pointer (some ⟨g, o, none⟩)) (hy : a.eval y = .agg vs)
    (hB : Blk w g t cs) (hs : o + vs.size ≤ cs.size) (he : setL cs o vs.toList = cs') (hi : (P.info? ty).map (·.size) = some vs.size) (h1 : vs.toList.all (·.oneCell') = true) (h : ∀ w', Hid (Blk w' g t cs') → Hid (Only g w w') → wpList P ops Q rest (a.put op.dst undef) w') : wpList P ops Q (op :: rest) a w := by
  have e := setCells_part g t vs.toList o w cs hB
  rw [he] at e
  refine wpList_plain hgd fun _ hK => wp_store_mid ty x y ho g o vs hx hy (fun j hj => ?_) hi (Array.all_eq_true_iff_forall_mem.2 (fun v hv => List.all_eq_true.1 h1 v (by simpa using hv))) (hK _ _ (h _ (Lh e.1) (Lh e.2)))
  rw [hB.cell]
  exact ⟨by rw [Array.getElem?_eq_getElem (by omega)]; rfl, hB.frozen _⟩
end Go.Proofs.YtlnneacgllhdhaaGreatDoor
end
section
namespace Go.Proofs.YtlnneacgllhdhaaGreatDoor
open Go.RowKit OctMath
set_option linter.unusedVariables false
theorem Tryz.infoEnt : (Tryz.prog.info? 79).map (fun i => (i.zero.map (·.cells.size), i.size)) = some (some 21, 21) := by kernel_rfl
theorem wp_build1 {op : Oper} {a : Act} {w : World} {K : Act → World → Prop} {Q : Exit → Act → World → Prop} (x : Operand) (ho : op.op = .buildSlice 24 1 #[(0, x)]) (cs : Array Value) (hcs : cs.size = 21) (hx : a.eval x = .agg cs)
    (h : K (a.put op.dst (.slice (some ⟨w.heap.size, 0, none⟩) 1 1)) (w.alloc (.cells cs 79))) : op.wp Tryz.prog a w K Q := by
  have hi := Tryz.infoEnt
  cases q1 : Tryz.prog.info? 79 with
  | none => rw [q1] at hi; cases hi
  | some ii =>
    rw [q1] at hi
    simp only [Option.map_some, Option.some.injEq, Prod.mk.injEq] at hi
    obtain ⟨hz, q3⟩ := hi
    obtain ⟨z, q2, hzs⟩ := Option.map_eq_some_iff.1 hz
    refine wp_buildSlice 24 79 1 #[(0, x)] ho cs ii z Tryz.underlying24 q1 q2 (by rw [q3]; decide) (by rw [q3]; decide) ?_ h
    rw [q3]
    have e1 : ((#[(0, x)] : Array (Nat × Operand)).map fun (i, x) => (i, a.eval x)).toList = [(0, Value.agg cs)] := by simp [hx]
    rw [e1, ← hcs]
    exact fill_one (by omega) (by simp [hcs])
theorem em_cells {w : World} {ad : Addr} {es : List EM} (hr : ∀ j u, (es.flatMap emCs)[j]? = some u → w.cell? (ad.add j) = some u) {k : Nat} (hk : k < es.length) : ∀ j v, (emCs es[k])[j]? = some v → w.cell? ((ad.add (k * 21)).add j) = some v := by
  intro j v hv
  have hj : j < 21 := (List.getElem?_eq_some_iff.1 hv).1
  rw [Go.Deep.add_add]
  refine hr _ _ ?_
  rw [flat_get (size := 21) (fun _ => rfl) es k hk j hj]
  exact hv
def RetOB (ys : List Nat) (w : World) (e : Ending) (w' : World) : Prop := ∃ A cap, e = .returned (.slice A ys.length cap) ∧ Reads w' w'.heap.size 1 A ys.length (ys.map bv) ∧ Below w.heap.size w w' ∧ ys.length ≤ cap ∧ cap ≤ maxLen
set_option maxRecDepth 100000 in
set_option maxHeartbeats 4000000 in
theorem wrb_entry (O : Option Addr) (on oc : Nat) (xs : List Nat) (A : Option Addr) (c : Nat) (B : Option Addr) (d : Nat) (E : Option Addr) (f : Nat) (x : EntT) (w : World) (hO : Hid (Reads w w.heap.size 1 O on (xs.map bv))) (hK : Hid (Reads w w.heap.size 2 A x.cmd.mem.length (mcells x.cmd.mem))) (hJ : Hid (Reads w w.heap.size 1 B x.voters.length (x.voters.map iv))) (hI : Hid (Reads w w.heap.size 1 E x.learners.length (x.learners.map iv))) (HO : EntOk x) (hl : on + 42992040 ≤ 70000000000000) :
    Calls Tryz.prog 58 #[.slice O on oc, .agg #[.int .u64 (x.index : Int), .int .u64 (x.term : Int), .int .i64 x.kind, .int .i64 x.cmd.kind, .int .u64 (x.cmd.client : Int), .int .u64 (x.cmd.seq : Int), .string (strOf x.cmd.key), .int .i64 x.cmd.size, .int .u32 (x.cmd.sum : Int), .int .u64 (x.cmd.version : Int), .int .u64 (x.cmd.epoch : Int), .int .i64 x.cmd.group, .int .i64 x.cmd.node, .bool x.cmd.up, .int .u64 (x.cmd.id.ver : Int), .int .i64 x.cmd.id.idx, .int .u64 (x.cmd.id.ep : Int), .int .u64 (x.cmd.mep : Int), .slice A x.cmd.mem.length c, .slice B x.voters.length d, .slice E x.learners.length f], .func (.func 59) #[] #[]] w (RetOB (xs ++ pEnt x) w) := by
  have hon : xs.length = on := by simpa using hO.out.1
  have HON := Lh hon
  have hmk : ∀ W : World, (Instr.makeSlice 33 (.int .i64 0) (.int .i64 ((on : Int) + 64))).run Tryz.prog W = .ok (.slice (some ⟨W.heap.size, 0, none⟩) 0 (on + 64)) (W.alloc (.cells (madeCells #[.int .u8 0] (on + 64)) 5)) := fun W => by
    have := make0 (on + 64) (by omega) W
    rw [show ((on + 64 : Nat) : Int) = (on : Int) + 64 from by omega] at this
    exact this
  have HO := Lh HO
  obtain ⟨ys, hys⟩ : ∃ ys, xs ++ pEnt x = ys := ⟨_, rfl⟩
  have HYS := Lh hys
  rw [hys]
  clear hys
  obtain ⟨w0, ew0⟩ : ∃ w0, w.alloc (.cells #[.int .u64 (x.index : Int), .int .u64 (x.term : Int), .int .i64 x.kind, .int .i64 x.cmd.kind, .int .u64 (x.cmd.client : Int), .int .u64 (x.cmd.seq : Int), .string (strOf x.cmd.key), .int .i64 x.cmd.size, .int .u32 (x.cmd.sum : Int), .int .u64 (x.cmd.version : Int), .int .u64 (x.cmd.epoch : Int), .int .i64 x.cmd.group, .int .i64 x.cmd.node, .bool x.cmd.up, .int .u64 (x.cmd.id.ver : Int), .int .i64 x.cmd.id.idx, .int .u64 (x.cmd.id.ep : Int), .int .u64 (x.cmd.mep : Int), .slice A x.cmd.mem.length c, .slice B x.voters.length d, .slice E x.learners.length f] 79) = w0 := ⟨_, rfl⟩
  have hb : Below w.heap.size w (w.alloc (.cells #[.int .u64 (x.index : Int), .int .u64 (x.term : Int), .int .i64 x.kind, .int .i64 x.cmd.kind, .int .u64 (x.cmd.client : Int), .int .u64 (x.cmd.seq : Int), .string (strOf x.cmd.key), .int .i64 x.cmd.size, .int .u32 (x.cmd.sum : Int), .int .u64 (x.cmd.version : Int), .int .u64 (x.cmd.epoch : Int), .int .i64 x.cmd.group, .int .i64 x.cmd.node, .bool x.cmd.up, .int .u64 (x.cmd.id.ver : Int), .int .i64 x.cmd.id.idx, .int .u64 (x.cmd.id.ep : Int), .int .u64 (x.cmd.mep : Int), .slice A x.cmd.mem.length c, .slice B x.voters.length d, .slice E x.learners.length f] 79)) := (Below.refl _ _).alloc (Nat.le_refl _) _
  have hx : Blk (w.alloc (.cells #[.int .u64 (x.index : Int), .int .u64 (x.term : Int), .int .i64 x.kind, .int .i64 x.cmd.kind, .int .u64 (x.cmd.client : Int), .int .u64 (x.cmd.seq : Int), .string (strOf x.cmd.key), .int .i64 x.cmd.size, .int .u32 (x.cmd.sum : Int), .int .u64 (x.cmd.version : Int), .int .u64 (x.cmd.epoch : Int), .int .i64 x.cmd.group, .int .i64 x.cmd.node, .bool x.cmd.up, .int .u64 (x.cmd.id.ver : Int), .int .i64 x.cmd.id.idx, .int .u64 (x.cmd.id.ep : Int), .int .u64 (x.cmd.mep : Int), .slice A x.cmd.mem.length c, .slice B x.voters.length d, .slice E x.learners.length f] 79)) w.heap.size 79 #[.int .u64 (x.index : Int), .int .u64 (x.term : Int), .int .i64 x.kind, .int .i64 x.cmd.kind, .int .u64 (x.cmd.client : Int), .int .u64 (x.cmd.seq : Int), .string (strOf x.cmd.key), .int .i64 x.cmd.size, .int .u32 (x.cmd.sum : Int), .int .u64 (x.cmd.version : Int), .int .u64 (x.cmd.epoch : Int), .int .i64 x.cmd.group, .int .i64 x.cmd.node, .bool x.cmd.up, .int .u64 (x.cmd.id.ver : Int), .int .i64 x.cmd.id.idx, .int .u64 (x.cmd.id.ep : Int), .int .u64 (x.cmd.mep : Int), .slice A x.cmd.mem.length c, .slice B x.voters.length d, .slice E x.learners.length f] := Blk.new w _ _
  rw [ew0] at hb hx
  have hsz : w0.heap.size = w.heap.size + 1 := by rw [← ew0]; simp
  have HB0 := Lh hb
  have HX0 := Lh hx
  have HS0 := Lh hsz
  clear hb hx hsz hon
  go_enter Tryz.func58, Tryz.ntmps58
  go_wp2_with (first
    | (at_builtin
       refine wpl_append rfl (.tmp 11) (.tmp 12) _ rfl w0 w0.heap.size 5 _ 1 1 Tryz.underlying33 Tryz.infoU8 rfl (by decide) (.slice (some ⟨w0.heap.size, 0, none⟩) 0 (on + 64)) 0 [] rfl ?own (w0.heap.size + 1) O on oc (xs.map bv) rfl ?rd (bv_one xs) (by omega) (by decide) ?bel ?base ?_
       case own => exact World.ownsRow_made w0 _ _ (Nat.le_refl _) (by unfold maxLen; omega) (by rw [size_madeCells, Nat.mul_one])
       case rd => exact ((hO.out.later HB0.out).alloc (Nat.le_refl _) _).more (by simp)
       case bel => exact (Below.refl _ _).alloc (Nat.le_refl _) _
       case base => simp
       intro v1 w1 hh
       obtain ⟨PA, pn, pc, rfl⟩ : ∃ PA pn pc, v1 = .slice PA pn pc := (by obtain ⟨x, y, e, _⟩ := own_slice hh.out.1; exact ⟨_, _, _, e⟩)
       have h1 := hh.out.1
       have h2 := hh.out.2.1
       have h3 := hh.out.2.2
       have hbs : Below w0.heap.size w0 (w1.alloc (.cells #[.slice PA pn pc] 170)) := h2.alloc h3 _
       have hsh : Sh (fun k => k < w.heap.size) w1.heap.size xs (w1.alloc (.cells #[.slice PA pn pc] 170)) := (by
         refine ⟨⟨_, Blk.new _ _ _, ?_, fun e => by have := (h1.lt _ e).2; omega, fun k hk e => by have := (h1.lt _ e).1; have := HS0.out; omega⟩⟩
         have h := own_baseO h1 (Nat.zero_le _)
         rw [HON.out]
         simpa using h.alloc _)
       obtain ⟨w2, ew2⟩ : ∃ w2, w1.alloc (.cells #[.slice PA pn pc] 170) = w2 := ⟨_, rfl⟩
       rw [ew2] at hbs hsh
       have HX2 := Lh (HX0.out.below hbs (by have := HS0.out; omega))
       have HB4 := Lh (show Below w.heap.size w w2 from HB0.out.trans (hbs.mono (by have := HS0.out; omega)))
       have HSH := Lh hsh
       have HSF := Lh (show Safe (fun k => k < w.heap.size) w1.heap.size w2 from fun k hk => ⟨Nat.lt_of_lt_of_le hk HB4.out.size, by have := HS0.out; omega⟩)
       clear ew0 hmk h1 h2 h3 hbs hsh)
    | (refine wpl_load_blk rfl 79 (.tmp 4) rfl w.heap.size 79 _ _ rfl HX2.out Tryz.underlying79 rfl Tryz.sizeE ?_)
    | (go_at_call 59; refine (sh_entry (fun k => k < w.heap.size) w1.heap.size xs A c B d E f x w2 HSH HSF (Lh (hK.out.later HB4.out)) (Lh (fun h0 ad e => by obtain ⟨ad1, e1, h1, -⟩ := hK.out.2 h0; rw [e] at e1; injection e1 with e1; subst e1; exact h1)) (Lh (hJ.out.later HB4.out)) (Lh (fun h0 ad e => by obtain ⟨ad1, e1, h1, -⟩ := hJ.out.2 h0; rw [e] at e1; injection e1 with e1; subst e1; exact h1)) (Lh (hI.out.later HB4.out)) (Lh (fun h0 ad e => by obtain ⟨ad1, e1, h1, -⟩ := hI.out.2 h0; rw [e] at e1; injection e1 with e1; subst e1; exact h1)) HO.out (by have := HON.out; omega)).mono ?_; rintro e w3 ⟨rfl, h1, h2⟩
       rw [HYS.out] at h1
       have HK3 := Lh h2
       obtain ⟨pv, pB, pO, -, -⟩ := h1.out
       obtain ⟨A3, c3, rfl, u1, u2⟩ := own_slice pO
       have HU := Lh (And.intro u1 u2)
       have z0 := pB.cell 0
       have HR := Lh (Reads.of_own pO)
       clear h1 h2 pB pO ew2 u1 u2))
  go_ret
  refine ⟨_, _, rfl, HR.out, ?_⟩
  exact ⟨HB4.out.trans (HK3.out.toBelow HB4.out.size (fun k hk => hk)), HU.out.1, HU.out.2⟩
set_option maxRecDepth 100000 in
set_option maxHeartbeats 4000000 in
theorem putb_entry (O : Option Addr) (on oc : Nat) (xs : List Nat) (A : Option Addr) (c : Nat) (B : Option Addr) (d : Nat) (E : Option Addr) (f : Nat) (x : EntT) (w : World) (hO : Hid (Reads w w.heap.size 1 O on (xs.map bv))) (hK : Hid (Reads w w.heap.size 2 A x.cmd.mem.length (mcells x.cmd.mem))) (hJ : Hid (Reads w w.heap.size 1 B x.voters.length (x.voters.map iv))) (hI : Hid (Reads w w.heap.size 1 E x.learners.length (x.learners.map iv))) (HO : EntOk x) (hl : on + 42992040 ≤ 70000000000000) :
    Calls Tryz.prog 26 #[.slice O on oc, .agg #[.int .u64 (x.index : Int), .int .u64 (x.term : Int), .int .i64 x.kind, .int .i64 x.cmd.kind, .int .u64 (x.cmd.client : Int), .int .u64 (x.cmd.seq : Int), .string (strOf x.cmd.key), .int .i64 x.cmd.size, .int .u32 (x.cmd.sum : Int), .int .u64 (x.cmd.version : Int), .int .u64 (x.cmd.epoch : Int), .int .i64 x.cmd.group, .int .i64 x.cmd.node, .bool x.cmd.up, .int .u64 (x.cmd.id.ver : Int), .int .i64 x.cmd.id.idx, .int .u64 (x.cmd.id.ep : Int), .int .u64 (x.cmd.mep : Int), .slice A x.cmd.mem.length c, .slice B x.voters.length d, .slice E x.learners.length f]] w (RetOB (xs ++ pEnt x) w) := by
  obtain ⟨w0, ew0⟩ : ∃ w0, w.alloc (.cells #[.int .u64 (x.index : Int), .int .u64 (x.term : Int), .int .i64 x.kind, .int .i64 x.cmd.kind, .int .u64 (x.cmd.client : Int), .int .u64 (x.cmd.seq : Int), .string (strOf x.cmd.key), .int .i64 x.cmd.size, .int .u32 (x.cmd.sum : Int), .int .u64 (x.cmd.version : Int), .int .u64 (x.cmd.epoch : Int), .int .i64 x.cmd.group, .int .i64 x.cmd.node, .bool x.cmd.up, .int .u64 (x.cmd.id.ver : Int), .int .i64 x.cmd.id.idx, .int .u64 (x.cmd.id.ep : Int), .int .u64 (x.cmd.mep : Int), .slice A x.cmd.mem.length c, .slice B x.voters.length d, .slice E x.learners.length f] 79) = w0 := ⟨_, rfl⟩
  have hb : Below w.heap.size w (w.alloc (.cells #[.int .u64 (x.index : Int), .int .u64 (x.term : Int), .int .i64 x.kind, .int .i64 x.cmd.kind, .int .u64 (x.cmd.client : Int), .int .u64 (x.cmd.seq : Int), .string (strOf x.cmd.key), .int .i64 x.cmd.size, .int .u32 (x.cmd.sum : Int), .int .u64 (x.cmd.version : Int), .int .u64 (x.cmd.epoch : Int), .int .i64 x.cmd.group, .int .i64 x.cmd.node, .bool x.cmd.up, .int .u64 (x.cmd.id.ver : Int), .int .i64 x.cmd.id.idx, .int .u64 (x.cmd.id.ep : Int), .int .u64 (x.cmd.mep : Int), .slice A x.cmd.mem.length c, .slice B x.voters.length d, .slice E x.learners.length f] 79)) := (Below.refl _ _).alloc (Nat.le_refl _) _
  have hx : Blk (w.alloc (.cells #[.int .u64 (x.index : Int), .int .u64 (x.term : Int), .int .i64 x.kind, .int .i64 x.cmd.kind, .int .u64 (x.cmd.client : Int), .int .u64 (x.cmd.seq : Int), .string (strOf x.cmd.key), .int .i64 x.cmd.size, .int .u32 (x.cmd.sum : Int), .int .u64 (x.cmd.version : Int), .int .u64 (x.cmd.epoch : Int), .int .i64 x.cmd.group, .int .i64 x.cmd.node, .bool x.cmd.up, .int .u64 (x.cmd.id.ver : Int), .int .i64 x.cmd.id.idx, .int .u64 (x.cmd.id.ep : Int), .int .u64 (x.cmd.mep : Int), .slice A x.cmd.mem.length c, .slice B x.voters.length d, .slice E x.learners.length f] 79)) w.heap.size 79 #[.int .u64 (x.index : Int), .int .u64 (x.term : Int), .int .i64 x.kind, .int .i64 x.cmd.kind, .int .u64 (x.cmd.client : Int), .int .u64 (x.cmd.seq : Int), .string (strOf x.cmd.key), .int .i64 x.cmd.size, .int .u32 (x.cmd.sum : Int), .int .u64 (x.cmd.version : Int), .int .u64 (x.cmd.epoch : Int), .int .i64 x.cmd.group, .int .i64 x.cmd.node, .bool x.cmd.up, .int .u64 (x.cmd.id.ver : Int), .int .i64 x.cmd.id.idx, .int .u64 (x.cmd.id.ep : Int), .int .u64 (x.cmd.mep : Int), .slice A x.cmd.mem.length c, .slice B x.voters.length d, .slice E x.learners.length f] := Blk.new w _ _
  rw [ew0] at hb hx
  have HX0 := Lh hx
  have HB0 := Lh hb
  obtain ⟨ys, hys⟩ : ∃ ys, xs ++ pEnt x = ys := ⟨_, rfl⟩
  rw [hys]
  have HC := Lh (wrb_entry O on oc xs A c B d E f x w0 (Lh (hO.out.later hb)) (Lh (hK.out.later hb)) (Lh (hJ.out.later hb)) (Lh (hI.out.later hb)) HO hl)
  rw [hys] at HC
  clear hx hb hys
  go_enter Tryz.func26, Tryz.ntmps26
  go_wp2_with (first
    | (refine wpl_load_blk rfl 79 (.tmp 3) rfl w.heap.size 79 _ _ rfl HX0.out Tryz.underlying79 rfl Tryz.sizeE ?_)
    | (go_at_call 58; refine HC.out.mono ?_; rintro e w1 ⟨A1, c1, rfl, r1, hb1, hu1, hu2⟩; have HR := Lh (And.intro r1 hb1); have HU := Lh (And.intro hu1 hu2); clear r1 hb1 hu1 hu2))
  go_ret
  exact ⟨_, _, rfl, HR.out.1, HB0.out.trans (HR.out.2.mono HB0.out.size), HU.out.1, HU.out.2⟩
theorem byt_app {a b : List Nat} (h1 : ∀ x ∈ a, x < 256) (h2 : ∀ x ∈ b, x < 256) : ∀ x ∈ a ++ b, x < 256 := fun x hx => (List.mem_append.1 hx).elim (h1 x) (h2 x)
theorem pList_byt {α : Type} {put : α → List Nat} {l : List α} (h : ∀ x ∈ l, ∀ y ∈ put x, y < 256) : ∀ y ∈ pList put l, y < 256 := byt_app (putN_byt _) (fun y hy => by obtain ⟨x, hx, hy⟩ := List.mem_flatMap.1 hy; exact h x hx y hy)
theorem pId_byt (x : IdT) : ∀ y ∈ pId x, y < 256 := byt_app (putN_byt _) (byt_app (putN_byt _) (putN_byt _))
theorem pFlag_byt (b : Bool) : ∀ y ∈ pFlag b, y < 256 := fun y hy => by unfold pFlag at hy; rw [List.mem_singleton.1 hy]; split <;> omega
theorem pMap_byt (x : Nat × List (Int × Int)) : ∀ y ∈ pMap x, y < 256 := byt_app (putN_byt _) (pList_byt fun x _ => byt_app (putN_byt _) (putN_byt _))
theorem pConf_byt (x : List Int × List Int) : ∀ y ∈ pConf x, y < 256 := byt_app (pList_byt fun x _ => putN_byt _) (pList_byt fun x _ => putN_byt _)
theorem pCmd_byt {x : CmdT} (h : CmdOk x) : ∀ y ∈ pCmd x, y < 256 :=
  byt_app (putN_byt _) (byt_app (putN_byt _) (byt_app (putN_byt _) (byt_app (byt_app (putN_byt _) h.key.1) (byt_app (putN_byt _) (byt_app (putN_byt _) (byt_app (putN_byt _) (byt_app (putN_byt _) (byt_app (putN_byt _) (byt_app (putN_byt _) (byt_app (pFlag_byt _) (byt_app (pId_byt _) (pMap_byt _))))))))))))
theorem pEnt_byt {x : EntT} (h : EntOk x) : ∀ y ∈ pEnt x, y < 256 := byt_app (putN_byt _) (byt_app (putN_byt _) (byt_app (putN_byt _) (byt_app (pCmd_byt h.cmd) (pConf_byt _))))
def emB (es : List EM) : List Nat := es.flatMap fun m => pEnt m.x
theorem emB_take {es : List EM} {k : Nat} (hk : k < es.length) : emB (es.take (k + 1)) = emB (es.take k) ++ pEnt es[k].x := by
  unfold emB
  rw [List.take_succ_eq_append_getElem hk, List.flatMap_append]
  simp
end Go.Proofs.YtlnneacgllhdhaaGreatDoor
end
