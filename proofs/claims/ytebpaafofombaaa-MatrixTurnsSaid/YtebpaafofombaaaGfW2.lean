/-
  The walk of tables: a new block that holds the powers and the logarithms.
-/
import Derived.Test.YtebpaafofombaaaGfW1
namespace Go.Proofs.Ytebpaafofombaaa
open Go.RowKit GfMath
def zs (n : Nat) : Array Value := Array.replicate n (.int .u8 0)
def tab : Nat → Array Value
  | 0 => zs 511
  | k + 1 => ((tab k).setIfInBounds k (.int .u8 (E k))).setIfInBounds (255 + E k) (.int .u8 k)
theorem tab_size (k : Nat) : (tab k).size = 511 := by
  induction k with
  | zero => simp [tab, zs]
  | succ k ih => simp [tab, ih]
theorem zero55 (w : World) : (zeroValue 82).run Try.prog w = .ok (.agg (zs 511)) w := by kernel_rfl
def TabRel (w : World) (k : Nat) (wr : World) : Prop := wr = w.alloc (.cells (tab k) 82)
theorem tab_get {k j : Nat} (h : j < 511) : ∃ u, (tab k)[j]? = some u := ⟨_, Array.getElem?_eq_getElem (by rw [tab_size]; exact h)⟩
set_option maxRecDepth 10000 in
set_option maxHeartbeats 400000 in
theorem tables_any (w : World) :
    Calls Try.prog 45 #[] w fun e w' => e = .returned (.pointer (some ⟨w.heap.size, 0, none⟩)) ∧ w' = w.alloc (.cells (tab 255) 82) := by
  have hz := zero55
  go_enter Try.func45, Try.ntmps45
  go_wp2
  go_loopw [2, 6] (fun x i wr => ∃ k : Nat, k ≤ 255 ∧ i = .int .i64 k ∧ x = .int .u8 (E k) ∧ TabRel w k wr) (fun _ i _ => 255 - (intOf i).toNat)
  case atStart => exact ⟨0, by omega, rfl, rfl, rfl⟩
  case round =>
    obtain ⟨k, hk, rfl, rfl, hw⟩ := hrel
    unfold TabRel at hw
    subst hw
    have hE := E_lt k
    obtain ⟨u1, h1⟩ := tab_get (k := k) (j := k) (by omega)
    obtain ⟨u2, h2⟩ : ∃ u, ((tab k).setIfInBounds k (.int .u8 (E k)))[255 + E k]? = some u := ⟨_, Array.getElem?_eq_getElem (by rw [Array.size_setIfInBounds, tab_size]; omega)⟩
    clear hz
    by_cases hlt : k < 255
    · go_wp2_with (go_at_call 46; refine (double_any (E k) hE _).mono ?_; rintro e w' ⟨rfl, rfl⟩)
      exact ⟨⟨k + 1, by omega, by go_num, rfl, rfl⟩, by simp [intOf]; omega⟩
    · obtain rfl : k = 255 := by omega
      go_wp2
      go_ret
      exact ⟨rfl, rfl⟩
theorem E_inj {i j : Nat} (hi : i < 255) (hj : j < 255) (h : E i = E j) : i = j := by
  have := congrArg lg h
  rwa [lg_E hi, lg_E hj] at this
theorem tab_spec (k : Nat) (hk : k ≤ 255) : (∀ i, i < k → (tab k)[i]? = some (.int .u8 (E i))) ∧ ∀ i, i < k → (tab k)[255 + E i]? = some (.int .u8 i) := by
  induction k with
  | zero => exact ⟨fun i h => absurd h (by omega), fun i h => absurd h (by omega)⟩
  | succ k ih =>
    obtain ⟨h1, h2⟩ := ih (by omega)
    have hs := tab_size k
    constructor
    · intro i hi
      have hE := E_lt k
      have hp : 0 < E k := Nat.pos_of_ne_zero (E_ne k)
      show (((tab k).setIfInBounds k _).setIfInBounds (255 + E k) _)[i]? = _
      rw [Array.getElem?_setIfInBounds_ne (by omega)]
      by_cases e : i = k
      · subst e; rw [Array.getElem?_setIfInBounds_self_of_lt (by omega)]
      · rw [Array.getElem?_setIfInBounds_ne (by omega)]; exact h1 i (by omega)
    · intro i hi
      have hE := E_lt k
      have hEi := E_lt i
      show (((tab k).setIfInBounds k _).setIfInBounds (255 + E k) _)[255 + E i]? = _
      by_cases e : i = k
      · subst e; rw [Array.getElem?_setIfInBounds_self_of_lt (by rw [Array.size_setIfInBounds]; omega)]
      · have hne : E i ≠ E k := fun h => e (E_inj (by omega) (by omega) h)
        rw [Array.getElem?_setIfInBounds_ne (by omega), Array.getElem?_setIfInBounds_ne (by omega)]
        exact h2 i (by omega)
theorem tab_exp {i : Nat} (h : i < 255) : (tab 255)[i]? = some (.int .u8 (E i)) := (tab_spec 255 (by omega)).1 i h
theorem tab_log {a : Nat} (ha : a < 256) (h0 : a ≠ 0) : (tab 255)[255 + a]? = some (.int .u8 (lg a)) := by
  have := (tab_spec 255 (by omega)).2 (lg a) (lg_lt a)
  rwa [E_lg ha h0] at this
end Go.Proofs.Ytebpaafofombaaa
