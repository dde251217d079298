/-
  heads.
-/
import Derived.Test.YtebpaafofombaaaMxW18
namespace Go.Proofs.Ytebpaafofombaaa
open Go.RowKit GfMath MxMath
set_option linter.unusedVariables false
theorem Reads.blk {w : World} {g : Nat} {t : TypeId} {cs : Array Value} (h : Blk w g t cs) : Reads w w.heap.size 1 (some ⟨g, 0, none⟩) cs.size cs.toList :=
  ⟨by simp, fun _ => ⟨_, rfl, h.lt, fun j u hu => by
    rw [show (⟨g, 0, none⟩ : Addr).add j = ⟨g, j, none⟩ from by unfold Addr.add; split <;> simp_all, h.cell]
    simpa using hu⟩⟩
theorem RowsIn.nil (w : World) : RowsIn w [] [] := ⟨rfl, fun i l h => by simp at h⟩
theorem RowsIn.cons {w : World} {vs : List Value} {ls : List (List Nat)} {A : Option Addr} {n cap : Nat} {l : List Nat} (h : RowsIn w vs ls) (hr : Reads w w.heap.size 1 A n (l.map bv)) (hn : l.length = n) (h1 : n ≤ cap) (h2 : cap ≤ maxLen) (hb : Byt l) :
    RowsIn w (.slice A n cap :: vs) (l :: ls) := by
  subst hn
  refine ⟨by simp [h.1], fun i l' hl => ?_⟩
  cases i with
  | zero => simp at hl; subst hl; exact ⟨A, cap, rfl, h1, h2, hr, hb⟩
  | succ i => simpa using h.2 i l' (by simpa using hl)
theorem ones_short : rankN 2 2 (fun _ _ => 1) ≠ 2 := fun h => by
  have h1 := (inv_both h).1
  have a := h1 0 0 (by omega) (by omega)
  have b := h1 0 1 (by omega) (by omega)
  have e : mm 2 (invM 2 fun _ _ => 1) (fun _ _ => (1 : El)) 0 0 = mm 2 (invM 2 fun _ _ => 1) (fun _ _ => (1 : El)) 0 1 := rfl
  rw [a, b] at e
  exact one_ne (by simpa [dl] using e)
theorem in_lit2 (w : World) (l1 l2 : List Nat) (h1 : Byt l1) (h2 : Byt l2) (m1 : l1.length ≤ maxLen) (m2 : l2.length ≤ maxLen) :
    InM (((w.alloc (.cells (l1.map bv).toArray 5)).alloc (.cells (l2.map bv).toArray 5)).alloc (.cells #[.slice (some ⟨w.heap.size, 0, none⟩) l1.length l1.length, .slice (some ⟨w.heap.size + 1, 0, none⟩) l2.length l2.length] 22)) (some ⟨w.heap.size + 1 + 1, 0, none⟩) 2 [l1, l2] := by
  obtain ⟨w1, e1⟩ : ∃ w1, w.alloc (.cells (l1.map bv).toArray 5) = w1 := ⟨_, rfl⟩
  have b1 : Blk w1 w.heap.size 5 (l1.map bv).toArray := by rw [← e1]; exact Blk.new _ _ _
  have s1 : w1.heap.size = w.heap.size + 1 := by rw [← e1]; simp
  rw [e1]
  obtain ⟨w2, e2⟩ : ∃ w2, w1.alloc (.cells (l2.map bv).toArray 5) = w2 := ⟨_, rfl⟩
  have b2 : Blk w2 (w.heap.size + 1) 5 (l2.map bv).toArray := by rw [← e2, ← s1]; exact Blk.new _ _ _
  have b1 : Blk w2 w.heap.size 5 (l1.map bv).toArray := by rw [← e2]; exact b1.alloc _
  have s2 : w2.heap.size = w.heap.size + 1 + 1 := by rw [← e2]; simp [s1]
  rw [e2]
  refine ⟨by simp, by unfold maxLen; omega, [.slice (some ⟨w.heap.size, 0, none⟩) l1.length l1.length, .slice (some ⟨w.heap.size + 1, 0, none⟩) l2.length l2.length], ?_, ?_⟩
  · rw [← s2]; exact Reads.blk (Blk.new _ _ _)
  · have r1 := Reads.blk (b1.alloc (.cells #[.slice (some ⟨w.heap.size, 0, none⟩) l1.length l1.length, .slice (some ⟨w.heap.size + 1, 0, none⟩) l2.length l2.length] 22))
    have r2 := Reads.blk (b2.alloc (.cells #[.slice (some ⟨w.heap.size, 0, none⟩) l1.length l1.length, .slice (some ⟨w.heap.size + 1, 0, none⟩) l2.length l2.length] 22))
    exact RowsIn.cons (RowsIn.cons (RowsIn.nil _) (by simpa using r2) rfl (Nat.le_refl _) m2 h2) (by simpa using r1) rfl (Nat.le_refl _) m1 h1
theorem in_lit4 (w : World) (l1 l2 l3 l4 : List Nat) (h1 : Byt l1) (h2 : Byt l2) (h3 : Byt l3) (h4 : Byt l4) (m1 : l1.length ≤ maxLen) (m2 : l2.length ≤ maxLen) (m3 : l3.length ≤ maxLen) (m4 : l4.length ≤ maxLen) :
    InM (((((w.alloc (.cells (l1.map bv).toArray 5)).alloc (.cells (l2.map bv).toArray 5)).alloc (.cells (l3.map bv).toArray 5)).alloc (.cells (l4.map bv).toArray 5)).alloc (.cells #[.slice (some ⟨w.heap.size, 0, none⟩) l1.length l1.length, .slice (some ⟨w.heap.size + 1, 0, none⟩) l2.length l2.length, .slice (some ⟨w.heap.size + 1 + 1, 0, none⟩) l3.length l3.length, .slice (some ⟨w.heap.size + 1 + 1 + 1, 0, none⟩) l4.length l4.length] 22)) (some ⟨w.heap.size + 1 + 1 + 1 + 1, 0, none⟩) 4 [l1, l2, l3, l4] := by
  obtain ⟨w1, e1⟩ : ∃ w1, w.alloc (.cells (l1.map bv).toArray 5) = w1 := ⟨_, rfl⟩
  have b1 : Blk w1 w.heap.size 5 (l1.map bv).toArray := by rw [← e1]; exact Blk.new _ _ _
  have s1 : w1.heap.size = w.heap.size + 1 := by rw [← e1]; simp
  rw [e1]
  obtain ⟨w2, e2⟩ : ∃ w2, w1.alloc (.cells (l2.map bv).toArray 5) = w2 := ⟨_, rfl⟩
  have b2 : Blk w2 (w.heap.size + 1) 5 (l2.map bv).toArray := by rw [← e2, ← s1]; exact Blk.new _ _ _
  have b1 : Blk w2 w.heap.size 5 (l1.map bv).toArray := by rw [← e2]; exact b1.alloc _
  have s2 : w2.heap.size = w.heap.size + 1 + 1 := by rw [← e2]; simp [s1]
  rw [e2]
  obtain ⟨w3, e3⟩ : ∃ w3, w2.alloc (.cells (l3.map bv).toArray 5) = w3 := ⟨_, rfl⟩
  have b3 : Blk w3 (w.heap.size + 1 + 1) 5 (l3.map bv).toArray := by rw [← e3, ← s2]; exact Blk.new _ _ _
  have b1 : Blk w3 w.heap.size 5 (l1.map bv).toArray := by rw [← e3]; exact b1.alloc _
  have b2 : Blk w3 (w.heap.size + 1) 5 (l2.map bv).toArray := by rw [← e3]; exact b2.alloc _
  have s3 : w3.heap.size = w.heap.size + 1 + 1 + 1 := by rw [← e3]; simp [s2]
  rw [e3]
  obtain ⟨w4, e4⟩ : ∃ w4, w3.alloc (.cells (l4.map bv).toArray 5) = w4 := ⟨_, rfl⟩
  have b4 : Blk w4 (w.heap.size + 1 + 1 + 1) 5 (l4.map bv).toArray := by rw [← e4, ← s3]; exact Blk.new _ _ _
  have b1 : Blk w4 w.heap.size 5 (l1.map bv).toArray := by rw [← e4]; exact b1.alloc _
  have b2 : Blk w4 (w.heap.size + 1) 5 (l2.map bv).toArray := by rw [← e4]; exact b2.alloc _
  have b3 : Blk w4 (w.heap.size + 1 + 1) 5 (l3.map bv).toArray := by rw [← e4]; exact b3.alloc _
  have s4 : w4.heap.size = w.heap.size + 1 + 1 + 1 + 1 := by rw [← e4]; simp [s3]
  rw [e4]
  obtain ⟨o, eo⟩ : ∃ o, Obj.cells #[.slice (some ⟨w.heap.size, 0, none⟩) l1.length l1.length, .slice (some ⟨w.heap.size + 1, 0, none⟩) l2.length l2.length, .slice (some ⟨w.heap.size + 1 + 1, 0, none⟩) l3.length l3.length, .slice (some ⟨w.heap.size + 1 + 1 + 1, 0, none⟩) l4.length l4.length] 22 (0, 0) = o := ⟨_, rfl⟩
  refine ⟨by simp, by unfold maxLen; omega, [.slice (some ⟨w.heap.size, 0, none⟩) l1.length l1.length, .slice (some ⟨w.heap.size + 1, 0, none⟩) l2.length l2.length, .slice (some ⟨w.heap.size + 1 + 1, 0, none⟩) l3.length l3.length, .slice (some ⟨w.heap.size + 1 + 1 + 1, 0, none⟩) l4.length l4.length], ?_, ?_⟩
  · rw [← s4]; exact Reads.blk (Blk.new _ _ _)
  · rw [eo]
    have r1 := Reads.blk (b1.alloc o)
    have r2 := Reads.blk (b2.alloc o)
    have r3 := Reads.blk (b3.alloc o)
    have r4 := Reads.blk (b4.alloc o)
    exact RowsIn.cons (RowsIn.cons (RowsIn.cons (RowsIn.cons (RowsIn.nil _) (by simpa using r4) rfl (Nat.le_refl _) m4 h4) (by simpa using r3) rfl (Nat.le_refl _) m3 h3) (by simpa using r2) rfl (Nat.le_refl _) m2 h2) (by simpa using r1) rfl (Nat.le_refl _) m1 h1
theorem own_mat {w : World} {base r n : Nat} {v : Value} {M : Mat} (h : OwnM w base v (lmat r n M)) : ∃ A cap, v = .slice A r cap ∧ InM w A cap (lmat r n M) := by
  obtain ⟨A, cap, h1, h2⟩ := h.slice
  rw [lmat_len] at h1
  exact ⟨A, cap, h1, h2⟩
theorem gen_lit : decide (lmat 4 2 (genM 2) = [[1, 0], [0, 1], [142, 244], [244, 142]]) = true := by decide +kernel
theorem byt_of {xs : List Nat} (h : xs.all (· < 256) = true) : Byt xs := fun x hx => by simpa using List.all_eq_true.1 h x hx
theorem bad_rows : ¬ ∃ n, Good [[1, 1], [1]] n := fun ⟨n, h⟩ => by
  have a := h.all 0 (by simp)
  have b := h.all 1 (by simp)
  simp at a b
  omega
theorem ones_is : lmat 2 2 (fun _ _ => (1 : El)) = [[1, 1], [1, 1]] := rfl
set_option maxRecDepth 100000 in
set_option maxHeartbeats 1000000 in
theorem heads_true (w : World) : Calls Try.prog 9 #[] w fun e w' => e = .returned (.bool true) ∧ Below w.heap.size w w' := by
  go_enter Try.func9, Try.ntmps9
  go_wp2_with (first
    | (go_at_call 17; refine (generator_ok 2 4 _ (by omega) (by omega) (by omega)).mono ?_; rintro e w1 ⟨v1, rfl, h1⟩; obtain ⟨A1, c1, rfl, i1⟩ := own_mat h1.own; have I1 := Lib.hid i1; have H1 := Lib.hid h1.bel; clear h1 i1)
    | (go_at_call 12; have hL := Lib.hid (in_lit2 w1 [1, 1] [1, 1] (byt_of rfl) (byt_of rfl) (by decide) (by decide)); have hA := Lib.hid (((((Below.refl w1.heap.size w1).alloc (Nat.le_refl _) (.cells #[.int .u8 1, .int .u8 1] 5)).alloc (by simp) (.cells #[.int .u8 1, .int .u8 1] 5)).alloc (by simp; omega) (.cells #[.slice (some ⟨w1.heap.size, 0, none⟩) 2 2, .slice (some ⟨w1.heap.size + 1, 0, none⟩) 2 2] 22))); rw [← ones_is] at hL; refine (invert_not _ _ 2 (fun _ _ => 1) _ hL (by omega) (by omega) ones_short).mono ?_; rintro e w2 ⟨rfl, h2⟩; have H2 := Lib.hid ((hA.out).trans (h2.mono (by simp; omega))); clear h2 hL hA)
    | (go_at_call 14; have hL := Lib.hid (in_lit2 w2 [1, 1] [1] (byt_of rfl) (byt_of rfl) (by decide) (by decide)); have hA := Lib.hid (((((Below.refl w2.heap.size w2).alloc (Nat.le_refl _) (.cells #[.int .u8 1, .int .u8 1] 5)).alloc (by simp) (.cells #[.int .u8 1] 5)).alloc (by simp; omega) (.cells #[.slice (some ⟨w2.heap.size, 0, none⟩) 2 2, .slice (some ⟨w2.heap.size + 1, 0, none⟩) 1 1] 22))); refine (mul_refused _ _ 2 _ _ _ hL rfl bad_rows).mono ?_; rintro e w3 ⟨rfl, h3⟩; have H3 := Lib.hid ((hA.out).trans (h3.mono (by simp; omega))); clear h3 hL hA)
    | (go_at_call 15; have hL := Lib.hid (in_lit4 w3 [1, 0] [0, 1] [142, 244] [244, 142] (byt_of rfl) (byt_of rfl) (byt_of rfl) (byt_of rfl) (by decide) (by decide) (by decide) (by decide)); have hA := Lib.hid (((((((Below.refl w3.heap.size w3).alloc (Nat.le_refl _) (.cells #[.int .u8 1, .int .u8 0] 5)).alloc (by simp) (.cells #[.int .u8 0, .int .u8 1] 5)).alloc (by simp; omega) (.cells #[.int .u8 142, .int .u8 244] 5)).alloc (by simp; omega) (.cells #[.int .u8 244, .int .u8 142] 5)).alloc (by simp; omega) (.cells #[.slice (some ⟨w3.heap.size, 0, none⟩) 2 2, .slice (some ⟨w3.heap.size + 1, 0, none⟩) 2 2, .slice (some ⟨w3.heap.size + 1 + 1, 0, none⟩) 2 2, .slice (some ⟨w3.heap.size + 1 + 1 + 1, 0, none⟩) 2 2] 22))); have hI := Lib.hid (((I1.out.later H2.out).later H3.out).later hA.out); refine (samem_any _ _ _ _ 4 4 _ _ _ hI hL (by rw [lmat_len]) rfl).mono ?_; rintro e w4 ⟨rfl, d4, rfl⟩; rw [gen_lit]; have H4 := Lib.hid hA.out; clear hL hA hI))
  go_ret
  exact ⟨rfl, bel_drewN (bel_trans (bel_trans (bel_trans H1.out H2.out) H3.out) H4.out) d4⟩
end Go.Proofs.Ytebpaafofombaaa
