/-
  THE REFERENCE'S NUMBER. (printed by gen_paf1.py)
-/
import Derived.Test.YthgiafjiemiifaaPaR2
namespace Go.Proofs.Ythgiafjiemiifaa
open Go.RowKit OctMath
set_option linter.unusedVariables false
set_option maxRecDepth 100000 in
theorem rnumber_out (A : Option Addr) (cap n : Nat) (at_ : Int) (w : World) (h : at_ < 0 ∨ (n : Int) < at_) (hm : n ≤ maxLen) :
    Calls Try.prog 93 #[.slice A n cap, .int .i64 at_] w fun e w' => e = .returned (.tuple #[.int .u64 0, .int .i64 0, .int .i64 2]) ∧ w = w' := by
  unfold maxLen at hm
  by_cases h0 : at_ < 0
  · go_enter Try.func93, Try.ntmps93
    go_wp2
    go_ret3
    exact ⟨rfl, rfl⟩
  · have h1 : (n : Int) < at_ := by omega
    clear h
    go_enter Try.func93, Try.ntmps93
    go_wp2
    go_ret3
    exact ⟨rfl, rfl⟩
set_option maxRecDepth 100000 in
set_option maxHeartbeats 1000000 in
theorem rnumber_in (A : Option Addr) (cap n k : Nat) (bs : List Nat) (w : World) (hb : Byt bs) (hn : bs.length = n) (hr : Reads w w.heap.size 1 A n (bs.map bv)) (hk : k ≤ n) (hc : n ≤ cap) (hm : cap ≤ maxLen) :
    Calls Try.prog 93 #[.slice A n cap, .int .i64 k] w fun e w' => e = .returned (.tuple #[.int .u64 (rdN bs k).1, .int .i64 (rdN bs k).2.1, .int .i64 (rdN bs k).2.2]) ∧ w = w' := by
  unfold maxLen at hm
  have hds : Byt (bs.drop k) := hb.drop k
  have hdl : (bs.drop k).length = n - k := by simp [hn]
  obtain ⟨ds, hdd⟩ : ∃ ds, bs.drop k = ds := ⟨_, rfl⟩
  have hrd : rdN bs k = (let r := rdF ds 0 0; if r.2.2 = 0 then (r.1, (k : Int) + r.2.1, 0) else (0, 0, r.2.2)) := by
    unfold rdN
    rw [if_neg (by omega), show ((k : Int)).toNat = k from by omega, hdd]
  rw [hdd] at hds hdl
  have RD := Lib.hid hrd
  have hkb : decide ((k : Int) < 0) = false := by simp
  obtain ⟨L, hL⟩ : ∃ L, n - k = L := ⟨_, rfl⟩
  rw [hL] at hdl
  have HR := Lib.hid hr
  have HDD := Lib.hid hdd
  have HLN := Lib.hid hL
  have hLm : L ≤ 9223372036854775807 := by omega
  have hpL : k + L ≤ 9223372036854775807 := by omega
  have hk2 : (k : Int) ≤ n := by omega
  have hkn : decide ((k : Int) > (n : Int)) = false := decide_eq_false (by omega)
  clear hr hrd hdd hb hL
  go_enter Try.func93, Try.ntmps93
  go_wp2
  go_loop [7, 8] (fun vn vi => ∃ i acc : Nat, i ≤ L ∧ i ≤ 9 ∧ acc < 128 ^ i ∧ vi = .int .i64 i ∧ vn = .int .u64 acc ∧ rdF (ds.drop i) i acc = rdF ds 0 0) (fun _ vi => L - (intOf vi).toNat)
  case atStart => exact ⟨0, 0, by omega, by omega, by decide, rfl, rfl, rfl⟩
  case round =>
    obtain ⟨i, acc, hi, hi9, hacc, rfl, rfl, hrel⟩ := hrel
    by_cases hlt : i < L
    · obtain ⟨ad, rfl, hbl, hcell⟩ := HR.out.byteD (show k + i < n by have := HLN.out; omega)
      rw [show bs.getD (k + i) 0 = ds.getD i 0 by rw [← HDD.out, List.getD_eq_getElem?_getD, List.getD_eq_getElem?_getD, List.getElem?_drop]] at hcell
      obtain ⟨j, ej⟩ : ∃ j, k + i = j := ⟨_, rfl⟩
      have EJ := Lib.hid ej
      have ej2 : (k : Int) + (i : Int) = (j : Int) := by omega
      rw [ej] at hcell
      have hjn : j < n := by have := HLN.out; omega
      have hi10 : i < 10 := by omega
      clear ej
      have hcb := hds.getD i
      have hdrop : ds.drop i = ds.getD i 0 :: ds.drop (i + 1) := by
        rw [List.drop_eq_getElem_cons (by omega), List.getD_eq_getElem?_getD, List.getElem?_eq_getElem (by omega)]; rfl
      obtain ⟨c, hc0⟩ : ∃ c, ds.getD i 0 = c := ⟨_, rfl⟩
      rw [hc0] at hcell hcb hdrop
      rw [hdrop, rdF] at hrel
      have H := Lib.hid hrel
      clear hrel hdrop hc0
      by_cases hbad : (i = 9 ∧ 1 < c) ∨ (0 < i ∧ c = 0)
      · have hr := H.out
        rw [if_pos hbad] at hr
        have R1 := Lib.hid hr
        have hres : rdN bs k = (0, 0, 41) := by rw [RD.out, ← R1.out]; rfl
        have HS := Lib.hid hres
        clear hr hres
        by_cases hc0 : c = 0
        · have hi0 : 0 < i := by omega
          have hcz : ((c : Int) == 0) = true := by simpa using hc0
          have hc1 : (c : Int) ≤ 1 := by omega
          clear hbad H
          have HC := Lib.hid hc0
          clear hc0
          rcases hb9 : ((i : Int) == 9) with _ | _
          all_goals
            go_wp2
            go_ret3
            exact ⟨by rw [HS.out]; rfl, rfl⟩
        · have hi9' : i = 9 := by omega
          have hb9 : ((i : Int) == 9) = true := by rw [hi9']; rfl
          have hc1 : 1 < c := by omega
          have HI := Lib.hid hi9'
          clear hbad H hi9'
          go_wp2
          go_ret3
          exact ⟨by rw [HS.out]; rfl, rfl⟩
      · have hr := H.out
        rw [if_neg hbad] at hr
        have a1 := and127_8 c hcb
        have hd : c % 128 < 128 := by omega
        have h91 : i = 9 → c % 128 ≤ 1 := by omega
        have h99 : 128 ≤ c → i < 9 := by omega
        obtain ⟨d, ed⟩ : ∃ d, c % 128 = d := ⟨_, rfl⟩
        rw [ed] at a1 hd h91 hr
        obtain ⟨n1, n2, n3, n4⟩ := num_step i acc d hi9 hacc hd h91
        obtain ⟨s, es⟩ : ∃ s, d * 128 ^ i = s := ⟨_, rfl⟩
        rw [es] at n1 n2 n3 n4 hr
        have HR1 := Lib.hid hr
        have N3 := Lib.hid n3
        have hsum : 0 ≤ (i : Int) + 1 := by omega
        clear hr es ed n3 H h91 hacc
        by_cases hlo : c < 128
        · have hr2 := HR1.out
          rw [if_pos hlo] at hr2
          have hres : rdN bs k = (acc + s, (k : Int) + ((i + 1 : Nat) : Int), 0) := by rw [RD.out, ← hr2]; rfl
          have HS := Lib.hid hres
          have hfin : ∀ x : Nat, ((acc + s : Nat) : Int) = x → True := fun _ _ => trivial
          clear hr2 hres hfin HR1
          by_cases h0 : i = 0
          · have i1 : ((i : Int) == 9) = false := by rw [h0]; rfl
            have i2 : ¬ 0 < i := by omega
            have H0 := Lib.hid h0
            clear h0 hbad
            go_wp2
            go_ret3
            exact ⟨by rw [HS.out]; exact ret3_nat' rfl (by show _ = (k : Int) + ((i + 1 : Nat) : Int); have := EJ.out; omega), rfl⟩
          · have i2 : 0 < i := by omega
            have hcz : ((c : Int) == 0) = false := by rw [beq_eq_false_iff_ne]; omega
            rcases hb9 : ((i : Int) == 9) with _ | _
            · clear hbad
              go_wp2
              go_ret3
              exact ⟨by rw [HS.out]; exact ret3_nat' rfl (by show _ = (k : Int) + ((i + 1 : Nat) : Int); have := EJ.out; omega), rfl⟩
            · have hc1 : c ≤ 1 := by
                have : i = 9 := by have := eq_of_beq hb9; omega
                omega
              clear hbad
              go_wp2
              go_ret3
              exact ⟨by rw [HS.out]; exact ret3_nat' rfl (by show _ = (k : Int) + ((i + 1 : Nat) : Int); have := EJ.out; omega), rfl⟩
        · have hr2 := HR1.out
          rw [if_neg hlo] at hr2
          have HS := Lib.hid hr2
          have hi8 : i < 9 := h99 (by omega)
          have i1 : ((i : Int) == 9) = false := by rw [beq_eq_false_iff_ne]; omega
          have hcz : ((c : Int) == 0) = false := by rw [beq_eq_false_iff_ne]; omega
          clear hr2 HR1 h99 hbad
          by_cases h0 : 0 < i
          · go_wp2
            exact ⟨⟨i + 1, acc + s, by omega, by omega, N3.out, by go_num, rfl, HS.out⟩, by simp [intOf]; omega⟩
          · go_wp2
            exact ⟨⟨i + 1, acc + s, by omega, by omega, N3.out, by go_num, rfl, HS.out⟩, by simp [intOf]; omega⟩
    · obtain rfl : i = L := by omega
      have hi10 : i < 10 := by omega
      have ej2 : (k : Int) + (i : Int) = (n : Int) := by have := HLN.out; omega
      rw [List.drop_of_length_le (by omega), rdF] at hrel
      have hres : rdN bs k = (0, 0, 40) := by rw [RD.out, ← hrel]; rfl
      have HS := Lib.hid hres
      clear hres hrel
      go_wp2
      go_ret3
      exact ⟨by rw [HS.out]; rfl, rfl⟩
end Go.Proofs.Ythgiafjiemiifaa
