/-
  The walk of Products: a new block with all products of one element.
-/
import Derived.Test.YtebpaafofombaaaGfW7
namespace Go.Proofs.Ytebpaafofombaaa
open Go.RowKit GfMath
/-- All products of c, as far as they are made. -/
def rowT (c m : Nat) : Array Value := (List.range 256).toArray.map fun x => if x < m then bv (gmul x c) else bv 0
theorem rowT_size (c m : Nat) : (rowT c m).size = 256 := by simp [rowT]
theorem rowT_get (c m x : Nat) (h : x < 256) : (rowT c m)[x]? = some (if x < m then bv (gmul x c) else bv 0) := by
  unfold rowT
  rw [Array.getElem?_map, List.getElem?_toArray, List.getElem?_range h]; rfl
theorem rowT_set (c m : Nat) (h : m < 256) : (rowT c m).setIfInBounds m (bv (gmul m c)) = rowT c (m + 1) := by
  apply Array.ext_getElem?
  intro x
  by_cases hx : x < 256
  · by_cases e : x = m
    · subst e
      rw [Array.getElem?_setIfInBounds_self_of_lt (by rw [rowT_size]; exact h), rowT_get _ _ _ h, if_pos (by omega)]
    · rw [Array.getElem?_setIfInBounds_ne (by omega), rowT_get _ _ _ hx, rowT_get _ _ _ hx]
      by_cases h1 : x < m
      · rw [if_pos h1, if_pos (by omega)]
      · rw [if_neg h1, if_neg (by omega)]
  · rw [Array.getElem?_eq_none (by rw [Array.size_setIfInBounds, rowT_size]; omega), Array.getElem?_eq_none (by rw [rowT_size]; omega)]
theorem gmul_split {c : Nat} (hc : c < 256) (j k : Nat) (hj : j < 8) (hk : k < 2 ^ j) : gmul k c ^^^ gmul (2 ^ j) c = gmul (2 ^ j + k) c := by
  have h8 : 2 ^ j ≤ 2 ^ 7 := Nat.pow_le_pow_right (by omega) (by omega)
  have l1 : 2 ^ j + k < 256 := by omega
  rw [add_pow_xor j k hk] at l1 ⊢
  rw [gmul_comm l1 hc, gmul_xor, gmul_comm hc (by omega), gmul_comm hc (by omega), Nat.xor_comm]
theorem set_alloc_drewN (w : World) (C : Array Value) (t : TypeId) (n i : Nat) (v : Value) :
    ((w.alloc (.cells C t)).drewN n).setCell ⟨w.heap.size, i, none⟩ v = (w.alloc (.cells (C.setIfInBounds i v) t)).drewN n := by
  rw [show ((w.alloc (.cells C t)).drewN n).setCell ⟨w.heap.size, i, none⟩ v = ((w.alloc (.cells C t)).setCell ⟨w.heap.size, i, none⟩ v).drewN n from rfl, World.setCell_alloc_at _ _ _ _ _ rfl]
theorem zero58 (w : World) : (zeroValue 89).run Try.prog w = .ok (.agg (Array.replicate 256 (.int .u8 0))) w := by kernel_rfl
theorem rep_rowT (c : Nat) (hc : c < 256) : Array.replicate 256 (Value.int .u8 0) = rowT c 1 := by
  apply Array.ext_getElem?
  intro x
  rw [Array.getElem?_replicate]
  by_cases hx : x < 256
  · rw [if_pos hx, rowT_get _ _ _ hx]
    by_cases h1 : x < 1
    · obtain rfl : x = 0 := by omega
      rw [if_pos h1, zero_gmul hc]; rfl
    · rw [if_neg h1]; rfl
  · rw [if_neg hx, Array.getElem?_eq_none (by rw [rowT_size]; omega)]
theorem zero58' (c : Nat) (hc : c < 256) (w : World) : (zeroValue 89).run Try.prog w = .ok (.agg (rowT c 1)) w := by rw [zero58, rep_rowT c hc]
set_option maxRecDepth 100000 in
set_option maxHeartbeats 1000000 in
theorem products_any (c : Nat) (hc : c < 256) (w : World) :
    Calls Try.prog 50 #[.int .u8 c] w fun e w' => e = .returned (.pointer (some ⟨w.heap.size, 0, none⟩)) ∧ ∃ d, w' = (w.alloc (.cells (rowT c 256) 89)).drewN d := by
  have hz := zero58' c hc
  go_enter Try.func50, Try.ntmps50
  go_wp2
  clear hz
  go_loopw [4] (fun vi wr => ∃ j d : Nat, j ≤ 8 ∧ vi = .int .i64 ((2 ^ j : Nat) : Int) ∧ wr = (w.alloc (.cells (rowT c (2 ^ j)) 89)).drewN d) (fun vi _ => 256 - (intOf vi).toNat)
  case atStart => exact ⟨0, 0, by omega, rfl, rfl⟩
  case round =>
    obtain ⟨j, d, hj, rfl, rfl⟩ := hrel
    by_cases h8 : j < 8
    · have hp : 2 ^ j < 256 := Nat.lt_of_le_of_lt (Nat.pow_le_pow_right (by omega) (show j ≤ 7 by omega)) (by decide)
      obtain ⟨m, hm⟩ : ∃ m, 2 ^ j = m := ⟨_, rfl⟩
      have hm0 : 0 < m := by rw [← hm]; exact Nat.pow_pos (by omega)
      have hsp : ∀ k, k < m → gmul k c ^^^ gmul m c = gmul (m + k) c := by rw [← hm]; exact fun k hk => gmul_split hc j k h8 hk
      have H := Lib.hid hm
      rw [hm] at hp ⊢
      clear hm
      have hsp := Lib.hid hsp
      go_wp2_with (go_at_call 40; refine (mul_i _ _ (by omega) (by omega) (by omega) (by omega) _).mono ?_; rintro e w' ⟨rfl, rfl⟩)
      go_loopw [18] (fun vk wi => ∃ k d' : Nat, k ≤ m ∧ vk = .int .i64 k ∧ wi = (w.alloc (.cells (rowT c (m + k)) 89)).drewN d') (fun vk _ => m - (intOf vk).toNat)
      case atStart => exact ⟨0, d, by omega, rfl, rfl⟩
      case round =>
        obtain ⟨k, d', hk, rfl, rfl⟩ := hrel
        by_cases hlt : k < m
        · have g1 : (rowT c (m + k))[k]? = some (.int .u8 (gmul k c : Nat)) := by rw [rowT_get _ _ _ (by omega), if_pos (by omega)]; rfl
          have hmk : m + k < 256 := by
            have := H.out
            subst this
            have h7 : 2 ^ j ≤ 2 ^ 7 := Nat.pow_le_pow_right (by omega) (by omega)
            omega
          have g2 : (rowT c (m + k))[m + k]? = some (bv 0) := by rw [rowT_get _ _ _ (by omega), if_neg (by omega)]
          have l1 : gmul k c < 256 := gmul_lt (by omega)
          have l2 : gmul m c < 256 := gmul_lt (by omega)
          have x1 := xor8 (gmul k c) (gmul m c) l1 l2
          rw [hsp.out k hlt] at x1
          have hst := Lib.hid (rowT_set c (m + k) hmk)
          go_wp2
          go_region
          go_wp2
          exact ⟨⟨k + 1, _, by omega, by go_num, by rw [set_alloc_drewN, show (Value.int .u8 ((gmul (m + k) c : Nat) : Int)) = bv (gmul (m + k) c) from rfl, hst.out]; rfl⟩, by simp [intOf]; omega⟩
        · obtain rfl : k = m := by omega
          go_wp2
          have e2 : 2 ^ (j + 1) = k + k := by rw [Nat.pow_succ, H.out]; omega
          exact ⟨⟨j + 1, d', by omega, by rw [e2]; congr 1; omega, by rw [e2]⟩, by simp [intOf]; omega⟩
    · obtain rfl : j = 8 := by omega
      go_wp2
      go_ret
      exact ⟨rfl, _, rfl⟩
end Go.Proofs.Ytebpaafofombaaa
