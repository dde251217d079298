/-
  Got's search for the node that it is sent to.
-/
import Derived.Test.YtmamdnikjfmenaaClW12
namespace Go.Proofs.Ytmamdnikjfmenaa
open Go.RowKit
set_option linter.unusedVariables false
theorem pred_ctx (g : Nat) (ms : Array Value) (ctx : Nat) (x : Int) (w : World) (hB : Hid (Blk w g 38 ms)) (h7 : w.cell? ⟨g, 7, none⟩ = some (.int .u64 ctx)) :
    Calls Try.prog 24 #[.int .i64 x, .pointer (some ⟨g, 0, none⟩)] w fun e w' => (∃ b : Bool, e = .returned (.bool b)) ∧ w = w' := by
  go_enter Try.func24, Try.ntmps24
  go_wp2
  go_ret
  exact ⟨⟨_, rfl⟩, rfl⟩
set_option maxRecDepth 100000 in
set_option maxHeartbeats 400000 in
theorem find_ctx (A : Option Addr) (n cap : Nat) (xs : List Int) (g : Nat) (ms : Array Value) (ctx : Nat) (w : World) (hl : xs.length = n) (HR : Hid (Reads w w.heap.size 1 A n (xs.map iv))) (hm : n ≤ 9223372036854775807) (hB : Hid (Blk w g 38 ms)) (h7 : ms[7]? = some (.int .u64 ctx)) :
    Calls Try.prog 23 #[.slice A n cap, .func (.func 24) #[] #[.pointer (some ⟨g, 0, none⟩)]] w fun e w' => (∃ i : Int, e = .returned (.int .i64 i) ∧ -1 ≤ i ∧ i < n) ∧ w = w' := by
  have HL := Lib.hid hl
  have H7 := Lib.hid ((hB.out.cell 7).trans h7)
  clear hl h7
  go_enter Try.func23, Try.ntmps23
  go_wp2
  go_loopw [5, 8] (fun _ vi wr => ∃ k : Nat, k ≤ n ∧ vi = .int .i64 k ∧ wr = w) (fun _ vi _ => n - (intOf vi).toNat)
  case atStart => exact ⟨0, by omega, rfl, rfl⟩
  case round =>
    obtain ⟨k, hk, rfl, rfl⟩ := hrel
    by_cases hlt : k < n
    · obtain ⟨ad, rfl, _, hc⟩ := HR.out.int_ hlt
      go_wp2_with (go_at_call 24; refine (pred_ctx g ms ctx _ _ hB H7.out).mono ?_; rintro e w1 ⟨⟨b, rfl⟩, rfl⟩; cases b)
      · exact ⟨⟨k + 1, by omega, by go_num, trivial⟩, by simp [intOf]; omega⟩
      · go_ret
        exact ⟨⟨_, rfl, by omega, by omega⟩, rfl⟩
    · obtain rfl : k = n := by omega
      go_wp2
      go_ret
      exact ⟨⟨_, rfl, by omega, by omega⟩, rfl⟩
end Go.Proofs.Ytmamdnikjfmenaa
