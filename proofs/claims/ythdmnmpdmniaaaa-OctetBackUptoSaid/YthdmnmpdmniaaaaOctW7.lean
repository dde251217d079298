/-
  The walk of heads: it returns true, and what was there stays.
-/
import Derived.Test.YthdmnmpdmniaaaaOctW6
import Derived.Test.YthdmnmpdmniaaaaOctW2
import Derived.Lib.SlBytesConst
namespace Go.Proofs.Ythdmnmpdmniaaaa
open Go.RowKit OctMath
set_option linter.unusedVariables false
theorem Reads.litF (w : World) (t : TypeId) (cs : List Value) (fz : Nat × Nat) : Reads (w.alloc (.cells cs.toArray t fz)) (w.heap.size + 1) 1 (some ⟨w.heap.size, 0, none⟩) cs.length cs := by
  refine ⟨by simp, fun _ => ⟨_, rfl, by simp, fun j u hu => ?_⟩⟩
  rw [show (⟨w.heap.size, 0, none⟩ : Addr).add j = ⟨w.heap.size, j, none⟩ from by unfold Addr.add; split <;> simp_all]
  have hb : (w.alloc (.cells cs.toArray t fz)).heap[w.heap.size]? = some (.cells cs.toArray t fz) := by
    show (w.heap.push _)[w.heap.size]? = _
    simp
  simp only [World.cell?, hb]
  simpa using hu
theorem rd_128 : rdN [128, 0] ((0 : Nat) : Int) = (0, 0, 41) := by decide +kernel
theorem rb_97 : rdB [2, 97] 0 9 = ([], 0, 40) := by decide +kernel
theorem crc_9 : ((crc [49, 50, 51, 52, 53, 54, 55, 56, 57] : Nat) : Int) = 3808858755 := by decide +kernel
theorem put_300 : putN 300 = [172, 2] := by rw [putN_big (by omega), putN_small (by omega)]
theorem put_m1 : putN (zz (-1)) = [1] := by rw [show zz (-1) = 1 from by decide, putN_small (by omega)]
theorem Reads.lit2 (w : World) (t : TypeId) (a b : Value) : Reads (w.alloc (.cells #[a, b] t)) (w.alloc (.cells #[a, b] t)).heap.size 1 (some ⟨w.heap.size, 0, none⟩) 2 [a, b] := (Reads.lit w t [a, b] 1 2 rfl).more (by simp)
theorem reads_128 (w : World) : Reads (w.alloc (.cells #[.int .u8 128, .int .u8 0] 5)) (w.alloc (.cells #[.int .u8 128, .int .u8 0] 5)).heap.size 1 (some ⟨w.heap.size, 0, none⟩) 2 ([128, 0].map bv) := Reads.lit2 w _ _ _
theorem reads_97 (w : World) : Reads (w.alloc (.cells #[.int .u8 2, .int .u8 97] 5)) (w.alloc (.cells #[.int .u8 2, .int .u8 97] 5)).heap.size 1 (some ⟨w.heap.size, 0, none⟩) 2 ([2, 97].map bv) := Reads.lit2 w _ _ _
theorem reads_172 (w : World) : Reads (w.alloc (.cells #[.int .u8 172, .int .u8 2] 5)) (w.alloc (.cells #[.int .u8 172, .int .u8 2] 5)).heap.size 1 (some ⟨w.heap.size, 0, none⟩) 2 ([172, 2].map bv) := Reads.lit2 w _ _ _
theorem reads_1 (w : World) : Reads (w.alloc (.cells #[.int .u8 1] 5)) (w.alloc (.cells #[.int .u8 1] 5)).heap.size 1 (some ⟨w.heap.size, 0, none⟩) 1 ([1].map bv) := (Reads.lit1 w 5 (bv 1)).more (by simp)
theorem reads_9 (w : World) : Reads (w.alloc (.cells #[.int .u8 49, .int .u8 50, .int .u8 51, .int .u8 52, .int .u8 53, .int .u8 54, .int .u8 55, .int .u8 56, .int .u8 57] 5 (9, 10))) (w.alloc (.cells #[.int .u8 49, .int .u8 50, .int .u8 51, .int .u8 52, .int .u8 53, .int .u8 54, .int .u8 55, .int .u8 56, .int .u8 57] 5 (9, 10))).heap.size 1 (some ⟨w.heap.size, 0, none⟩) 9 ([49, 50, 51, 52, 53, 54, 55, 56, 57].map bv) :=
  (Reads.litF w 5 [.int .u8 49, .int .u8 50, .int .u8 51, .int .u8 52, .int .u8 53, .int .u8 54, .int .u8 55, .int .u8 56, .int .u8 57] (9, 10)).more (by simp)
theorem byt_lit {xs : List Nat} (h : (xs.all fun x => decide (x < 256)) = true) : Byt xs := fun x hx => by simpa using List.all_eq_true.1 h x hx
set_option maxRecDepth 100000 in
set_option maxHeartbeats 1000000 in
theorem heads_any (w : World) : Calls Try.prog 8 #[] w fun e w' => e = .returned (.bool true) ∧ Below w.heap.size w w' := by
  have c9 := crc_9
  have kc := fun (W : World) (C : Array Value) (n c : Nat) => Lib.run_convert_bytes_const (P := Try.prog) W 22 5 C n c Try.underlying22 Try.underlying5
  go_enter Try.func8, Try.ntmps8
  go_wp2_with fail
  have hcall := number_any (some ⟨w.heap.size, 0, none⟩) 2 2 0 [128, 0] _ (byt_lit (by decide)) rfl (reads_128 w) (by omega) (by unfold maxLen; omega)
  refine hcall.mono ?_
  clear hcall
  rintro e w' ⟨rfl, rfl⟩
  rw [show rdN [128, 0] 0 = (0, 0, 41) from rd_128]
  have hb1 : Below w.heap.size w (w.alloc (.cells #[.int .u8 128, .int .u8 0] 5)) := (Below.refl _ _).alloc (Nat.le_refl _) _
  generalize w.alloc (.cells #[.int .u8 128, .int .u8 0] 5) = w1 at hb1 ⊢
  go_wp2_with fail
  have hcall := bytes_any (some ⟨w1.heap.size, 0, none⟩) 2 2 0 9 [2, 97] _ (byt_lit (by decide)) rfl (reads_97 w1) (by omega) (by unfold maxLen; omega) (by omega) (by omega)
  refine hcall.mono ?_
  clear hcall
  rintro e w2 ⟨A2, n2, c2, rfl, _, _, _, hb2⟩
  rw [rb_97]
  have hb3 : Below w.heap.size w w2 := (hb1.alloc hb1.size _).trans (hb2.mono (by simp; exact Nat.le_succ_of_le hb1.size))
  clear hb2 hb1
  go_wp2_with fail
  have hcall := crc_any (some ⟨w2.heap.size, 0, none⟩) 9 9 [49, 50, 51, 52, 53, 54, 55, 56, 57] _ (byt_lit (by decide)) rfl (reads_9 w2) (by unfold maxLen; omega)
  refine hcall.mono ?_
  clear hcall
  rintro e w4 ⟨rfl, hb4⟩
  have hb5 : Below w.heap.size w w4 := (hb3.alloc hb3.size _).trans (hb4.mono (by simp; exact Nat.le_succ_of_le hb3.size))
  clear hb4 hb3
  go_wp2_with fail
  refine (putnum_any none 0 0 300 [] _ Reads.none_ (by simp) (by omega) (by omega)).mono ?_
  rintro e w5 h
  obtain ⟨A5, c5, rfl, hr5, _, _, hb6, _⟩ := h.open
  rw [put_300] at hr5
  rw [show (([] : List Value) ++ (putN 300).map bv).length = 2 from by rw [put_300]; rfl]
  have hb7 : Below w.heap.size w w5 := hb5.trans (hb6.mono hb5.size)
  have HR5 := Lib.hid hr5
  clear hb5 hb6 h hr5
  go_wp2_with fail
  refine (same_any A5 (some ⟨w5.heap.size, 0, none⟩) c5 2 2 2 [172, 2] [172, 2] _ (byt_lit (by decide)) (byt_lit (by decide)) (HR5.out.alloc (Nat.le_refl _) _ |>.more (by simp)) (reads_172 w5)).mono ?_
  rintro e w' ⟨rfl, rfl⟩
  have hb8 : Below w.heap.size w (w5.alloc (.cells #[.int .u8 172, .int .u8 2] 5)) := hb7.alloc hb7.size _
  generalize w5.alloc (.cells #[.int .u8 172, .int .u8 2] 5) = w6 at hb8 ⊢
  clear hb7 HR5
  go_wp2_with fail
  refine (putint_any none 0 0 (-1) [] _ Reads.none_ (by simp) (by omega) (by omega) (by omega)).mono ?_
  rintro e w7 h
  obtain ⟨A7, c7, rfl, hr7, _, _, hb9, _⟩ := h.open
  rw [put_m1] at hr7
  rw [show (([] : List Value) ++ (putN (zz (-1))).map bv).length = 1 from by rw [put_m1]; rfl]
  have hb10 : Below w.heap.size w w7 := hb8.trans (hb9.mono hb8.size)
  have HR7 := Lib.hid hr7
  clear hb8 hb9 h hr7
  go_wp2_with fail
  refine (same_any A7 (some ⟨w7.heap.size, 0, none⟩) c7 1 1 1 [1] [1] _ (byt_lit (by decide)) (byt_lit (by decide)) (HR7.out.alloc (Nat.le_refl _) _ |>.more (by simp)) (reads_1 w7)).mono ?_
  rintro e w' ⟨rfl, rfl⟩
  go_wp2
  go_ret
  exact ⟨rfl, hb10.alloc hb10.size _⟩
end Go.Proofs.Ythdmnmpdmniaaaa
