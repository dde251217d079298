/-
  THE REFERENCE'S NUMBER. (printed by gen_paf1.py); THE REFERENCE'S NUMBERS, every place; THE REFERENCE'S BYTES, every place; THE REFERENCE'S READERS OF LAYER 3. (joined out of PaF2, PaF3, PaF4, PaF1 by shake.py)
-/
import Derived.Test.YthgiafjiemiifaaGreatPst06
section
namespace Go.Proofs.YthgiafjiemiifaaGreat
open Go.RowKit OctMath
set_option linter.unusedVariables false
set_option maxRecDepth 100000 in
theorem rnumber_out (A : Option Addr) (cap n : Nat) (at_ : Int) (w : World) (h : at_ < 0 ∨ (n : Int) < at_) (hm : n ≤ maxLen) :
    Calls Tryz.prog 96 #[.slice A n cap, .int .i64 at_] w fun e w' => e = .returned (.tuple #[.int .u64 0, .int .i64 0, .int .i64 2]) ∧ w = w' := by
  unfold maxLen at hm
  by_cases h0 : at_ < 0
  · go_enter Tryz.func96, Tryz.ntmps96
    go_wp2
    go_ret3
    exact ⟨rfl, rfl⟩
  · have h1 : (n : Int) < at_ := by omega
    clear h
    go_enter Tryz.func96, Tryz.ntmps96
    go_wp2
    go_ret3
    exact ⟨rfl, rfl⟩
set_option maxRecDepth 100000 in
set_option maxHeartbeats 1000000 in
theorem rnumber_in (A : Option Addr) (cap n k : Nat) (bs : List Nat) (w : World) (hb : Byt bs) (hn : bs.length = n) (hr : Reads w w.heap.size 1 A n (bs.map bv)) (hk : k ≤ n) (hc : n ≤ cap) (hm : cap ≤ maxLen) :
    Calls Tryz.prog 96 #[.slice A n cap, .int .i64 k] w fun e w' => e = .returned (.tuple #[.int .u64 (rdN bs k).1, .int .i64 (rdN bs k).2.1, .int .i64 (rdN bs k).2.2]) ∧ w = w' := by
  unfold maxLen at hm
  have hds : Byt (bs.drop k) := hb.drop k
  have hdl : (bs.drop k).length = n - k := by simp [hn]
  obtain ⟨ds, hdd⟩ : ∃ ds, bs.drop k = ds := ⟨_, rfl⟩
  have hrd : rdN bs k = (let r := rdF ds 0 0; if r.2.2 = 0 then (r.1, (k : Int) + r.2.1, 0) else (0, 0, r.2.2)) := by
    unfold rdN
    rw [if_neg (by omega), show ((k : Int)).toNat = k from by omega, hdd]
  rw [hdd] at hds hdl
  have RD := Lib.hid hrd
  have hkb : decide ((k : Int) < 0) = false := by simp
  obtain ⟨L, hL⟩ : ∃ L, n - k = L := ⟨_, rfl⟩
  rw [hL] at hdl
  have HR := Lib.hid hr
  have HDD := Lib.hid hdd
  have HLN := Lib.hid hL
  have hLm : L ≤ 9223372036854775807 := by omega
  have hpL : k + L ≤ 9223372036854775807 := by omega
  have hk2 : (k : Int) ≤ n := by omega
  have hkn : decide ((k : Int) > (n : Int)) = false := decide_eq_false (by omega)
  clear hr hrd hdd hb hL
  go_enter Tryz.func96, Tryz.ntmps96
  go_wp2
  go_loop [7, 8] (fun vn vi => ∃ i acc : Nat, i ≤ L ∧ i ≤ 9 ∧ acc < 128 ^ i ∧ vi = .int .i64 i ∧ vn = .int .u64 acc ∧ rdF (ds.drop i) i acc = rdF ds 0 0) (fun _ vi => L - (intOf vi).toNat)
  case atStart => exact ⟨0, 0, by omega, by omega, by decide, rfl, rfl, rfl⟩
  case round =>
    obtain ⟨i, acc, hi, hi9, hacc, rfl, rfl, hrel⟩ := hrel
    by_cases hlt : i < L
    · obtain ⟨ad, rfl, hbl, hcell⟩ := HR.out.byteD (show k + i < n by have := HLN.out; omega)
      rw [show bs.getD (k + i) 0 = ds.getD i 0 by rw [← HDD.out, List.getD_eq_getElem?_getD, List.getD_eq_getElem?_getD, List.getElem?_drop]] at hcell
      obtain ⟨j, ej⟩ : ∃ j, k + i = j := ⟨_, rfl⟩
      have EJ := Lib.hid ej
      have ej2 : (k : Int) + (i : Int) = (j : Int) := by omega
      rw [ej] at hcell
      have hjn : j < n := by have := HLN.out; omega
      have hi10 : i < 10 := by omega
      clear ej
      have hcb := hds.getD i
      have hdrop : ds.drop i = ds.getD i 0 :: ds.drop (i + 1) := by
        rw [List.drop_eq_getElem_cons (by omega), List.getD_eq_getElem?_getD, List.getElem?_eq_getElem (by omega)]; rfl
      obtain ⟨c, hc0⟩ : ∃ c, ds.getD i 0 = c := ⟨_, rfl⟩
      rw [hc0] at hcell hcb hdrop
      rw [hdrop, rdF] at hrel
      have H := Lib.hid hrel
      clear hrel hdrop hc0
      by_cases hbad : (i = 9 ∧ 1 < c) ∨ (0 < i ∧ c = 0)
      · have hr := H.out
        rw [if_pos hbad] at hr
        have R1 := Lib.hid hr
        have hres : rdN bs k = (0, 0, 41) := by rw [RD.out, ← R1.out]; rfl
        have HS := Lib.hid hres
        clear hr hres
        by_cases hc0 : c = 0
        · have hi0 : 0 < i := by omega
          have hcz : ((c : Int) == 0) = true := by simpa using hc0
          have hc1 : (c : Int) ≤ 1 := by omega
          clear hbad H
          have HC := Lib.hid hc0
          clear hc0
          rcases hb9 : ((i : Int) == 9) with _ | _
          all_goals
            go_wp2
            go_ret3
            exact ⟨by rw [HS.out]; rfl, rfl⟩
        · have hi9' : i = 9 := by omega
          have hb9 : ((i : Int) == 9) = true := by rw [hi9']; rfl
          have hc1 : 1 < c := by omega
          have HI := Lib.hid hi9'
          clear hbad H hi9'
          go_wp2
          go_ret3
          exact ⟨by rw [HS.out]; rfl, rfl⟩
      · have hr := H.out
        rw [if_neg hbad] at hr
        have a1 := and127_8 c hcb
        have hd : c % 128 < 128 := by omega
        have h91 : i = 9 → c % 128 ≤ 1 := by omega
        have h99 : 128 ≤ c → i < 9 := by omega
        obtain ⟨d, ed⟩ : ∃ d, c % 128 = d := ⟨_, rfl⟩
        rw [ed] at a1 hd h91 hr
        obtain ⟨n1, n2, n3, n4⟩ := num_step i acc d hi9 hacc hd h91
        obtain ⟨s, es⟩ : ∃ s, d * 128 ^ i = s := ⟨_, rfl⟩
        rw [es] at n1 n2 n3 n4 hr
        have HR1 := Lib.hid hr
        have N3 := Lib.hid n3
        have hsum : 0 ≤ (i : Int) + 1 := by omega
        clear hr es ed n3 H h91 hacc
        by_cases hlo : c < 128
        · have hr2 := HR1.out
          rw [if_pos hlo] at hr2
          have hres : rdN bs k = (acc + s, (k : Int) + ((i + 1 : Nat) : Int), 0) := by rw [RD.out, ← hr2]; rfl
          have HS := Lib.hid hres
          have hfin : ∀ x : Nat, ((acc + s : Nat) : Int) = x → True := fun _ _ => trivial
          clear hr2 hres hfin HR1
          by_cases h0 : i = 0
          · have i1 : ((i : Int) == 9) = false := by rw [h0]; rfl
            have i2 : ¬ 0 < i := by omega
            have H0 := Lib.hid h0
            clear h0 hbad
            go_wp2
            go_ret3
            exact ⟨by rw [HS.out]; exact ret3_nat' rfl (by show _ = (k : Int) + ((i + 1 : Nat) : Int); have := EJ.out; omega), rfl⟩
          · have i2 : 0 < i := by omega
            have hcz : ((c : Int) == 0) = false := by rw [beq_eq_false_iff_ne]; omega
            rcases hb9 : ((i : Int) == 9) with _ | _
            · clear hbad
              go_wp2
              go_ret3
              exact ⟨by rw [HS.out]; exact ret3_nat' rfl (by show _ = (k : Int) + ((i + 1 : Nat) : Int); have := EJ.out; omega), rfl⟩
            · have hc1 : c ≤ 1 := by
                have : i = 9 := by have := eq_of_beq hb9; omega
                omega
              clear hbad
              go_wp2
              go_ret3
              exact ⟨by rw [HS.out]; exact ret3_nat' rfl (by show _ = (k : Int) + ((i + 1 : Nat) : Int); have := EJ.out; omega), rfl⟩
        · have hr2 := HR1.out
          rw [if_neg hlo] at hr2
          have HS := Lib.hid hr2
          have hi8 : i < 9 := h99 (by omega)
          have i1 : ((i : Int) == 9) = false := by rw [beq_eq_false_iff_ne]; omega
          have hcz : ((c : Int) == 0) = false := by rw [beq_eq_false_iff_ne]; omega
          clear hr2 HR1 h99 hbad
          by_cases h0 : 0 < i
          · go_wp2
            exact ⟨⟨i + 1, acc + s, by omega, by omega, N3.out, by go_num, rfl, HS.out⟩, by simp [intOf]; omega⟩
          · go_wp2
            exact ⟨⟨i + 1, acc + s, by omega, by omega, N3.out, by go_num, rfl, HS.out⟩, by simp [intOf]; omega⟩
    · obtain rfl : i = L := by omega
      have hi10 : i < 10 := by omega
      have ej2 : (k : Int) + (i : Int) = (n : Int) := by have := HLN.out; omega
      rw [List.drop_of_length_le (by omega), rdF] at hrel
      have hres : rdN bs k = (0, 0, 40) := by rw [RD.out, ← hrel]; rfl
      have HS := Lib.hid hres
      clear hres hrel
      go_wp2
      go_ret3
      exact ⟨by rw [HS.out]; rfl, rfl⟩
end Go.Proofs.YthgiafjiemiifaaGreat
end
section
namespace Go.Proofs.YthgiafjiemiifaaGreat
open Go.RowKit OctMath
set_option linter.unusedVariables false
theorem rnumber_any (A : Option Addr) (cap n : Nat) (at_ : Int) (bs : List Nat) (w : World) (hb : Byt bs) (hn : bs.length = n) (hr : Reads w w.heap.size 1 A n (bs.map bv)) (hc : n ≤ cap) (hm : cap ≤ maxLen) :
    Calls Tryz.prog 96 #[.slice A n cap, .int .i64 at_] w fun e w' => e = .returned (.tuple #[.int .u64 (rdN bs at_).1, .int .i64 (rdN bs at_).2.1, .int .i64 (rdN bs at_).2.2]) ∧ w = w' := by
  by_cases h : at_ < 0 ∨ (n : Int) < at_
  · have e : rdN bs at_ = (0, 0, 2) := by unfold rdN; rw [hn, if_pos h]
    rw [e]
    exact rnumber_out A cap n at_ w h (by unfold maxLen at *; omega)
  · obtain ⟨k, rfl⟩ := Int.eq_ofNat_of_zero_le (show 0 ≤ at_ by omega)
    exact rnumber_in A cap n k bs w hb hn hr (by omega) hc hm
theorem unz_half (v : Nat) (h : v < 18446744073709551616) : (v % 2 = 0 → IntKind.i64.wrap ((v : Int) / 2) = unz v) ∧ (¬ v % 2 = 0 → -1 - (v : Int) / 2 = unz v) := by
  unfold unz
  constructor
  · intro h2; rw [if_pos h2, IntKind.wrap_i64]; omega
  · intro h2; rw [if_neg h2]; omega
theorem rdN_err {bs : List Nat} {at_ : Int} (h : (rdN bs at_).2.2 ≠ 0) : rdN bs at_ = (0, 0, (rdN bs at_).2.2) := by
  unfold rdN at h ⊢
  split
  · rfl
  · dsimp only
    split
    · rename_i h1 h2; simp [h1, h2] at h
    · rfl
set_option maxRecDepth 100000 in
set_option maxHeartbeats 1000000 in
theorem rint_any (A : Option Addr) (cap n : Nat) (at_ : Int) (bs : List Nat) (w : World) (hb : Byt bs) (hn : bs.length = n) (hr : Reads w w.heap.size 1 A n (bs.map bv)) (hc : n ≤ cap) (hm : cap ≤ maxLen) :
    Calls Tryz.prog 98 #[.slice A n cap, .int .i64 at_] w fun e w' => e = .returned (.tuple #[.int .i64 (unz (rdN bs at_).1), .int .i64 (rdN bs at_).2.1, .int .i64 (rdN bs at_).2.2]) ∧ w = w' := by
  obtain ⟨h1, h2, h3⟩ := rdN_lt bs at_ hb
  have HC := Lib.hid (rnumber_any A cap n at_ bs w hb hn hr hc hm)
  have HE := Lib.hid (rdN_err (bs := bs) (at_ := at_))
  generalize rdN bs at_ = r at *
  obtain ⟨v, p, er⟩ := r
  simp only at h1 HC HE
  clear h2 h3 hr
  by_cases he : er = 0
  · subst he
    obtain ⟨u1, u2⟩ := unz_half v h1
    have a1 := and1_u64 v h1
    by_cases ho : v % 2 = 0
    · have a2 := u1 ho
      rw [ho] at a1
      clear ho u1 u2 HE
      go_enter Tryz.func98, Tryz.ntmps98
      go_wp2_with (go_at_call 96; refine HC.out.mono ?_; rintro e w' ⟨rfl, rfl⟩)
      go_ret3
      exact ⟨rfl, rfl⟩
    · have U := Lib.hid (u2 ho)
      rw [show v % 2 = 1 from by omega] at a1
      clear ho u1 u2 HE
      go_enter Tryz.func98, Tryz.ntmps98
      go_wp2_with (go_at_call 96; refine HC.out.mono ?_; rintro e w' ⟨rfl, rfl⟩)
      go_ret3
      rw [← U.out]
      exact ⟨rfl, rfl⟩
  · have hz := HE.out he
    simp only [Prod.mk.injEq] at hz
    obtain ⟨rfl, rfl, -⟩ := hz
    have hne : ((er : Int) != 0) = true := by rw [bne_iff_ne]; omega
    clear HE he
    go_enter Tryz.func98, Tryz.ntmps98
    go_wp2_with (go_at_call 96; refine HC.out.mono ?_; rintro e w' ⟨rfl, rfl⟩)
    go_ret3
    exact ⟨rfl, rfl⟩
end Go.Proofs.YthgiafjiemiifaaGreat
end
section
namespace Go.Proofs.YthgiafjiemiifaaGreat
open Go.RowKit OctMath
set_option linter.unusedVariables false
set_option maxRecDepth 100000 in
set_option maxHeartbeats 2000000 in
theorem rbytes_any (A : Option Addr) (cap n : Nat) (at_ : Int) (bs : List Nat) (w : World) (hb : Byt bs) (hn : bs.length = n) (hr : Reads w w.heap.size 1 A n (bs.map bv)) (hc : n ≤ cap) (hm : cap ≤ maxLen) (hn2 : n ≤ 140737488351232) :
    Calls Tryz.prog 118 #[.slice A n cap, .int .i64 at_, .int .i64 1048576] w (RetB3 (rdB bs at_ 1048576) w) := by
  obtain ⟨h1, h2, h3⟩ := rdN_lt bs at_ hb
  have HC := Lib.hid (rnumber_any A cap n at_ bs w hb hn hr hc hm)
  have hdef : rdB bs at_ 1048576 = (if (rdN bs at_).2.2 ≠ 0 then ([], 0, (rdN bs at_).2.2)
      else if (1048576 : Int) < 0 ∨ (1048576 : Int) < (rdN bs at_).1 ∨ (bs.length : Int) - (rdN bs at_).2.1 < (rdN bs at_).1 then ([], 0, 40)
      else ((bs.drop (rdN bs at_).2.1.toNat).take (rdN bs at_).1, (rdN bs at_).2.1 + (rdN bs at_).1, 0)) := rfl
  obtain ⟨v, hv⟩ : ∃ v, (rdN bs at_).1 = v := ⟨_, rfl⟩
  obtain ⟨p0, hp⟩ : ∃ p, (rdN bs at_).2.1 = p := ⟨_, rfl⟩
  obtain ⟨er, he⟩ : ∃ er, (rdN bs at_).2.2 = er := ⟨_, rfl⟩
  rw [hv, hp, he] at HC hdef
  rw [hv] at h1
  rw [hp] at h2 h3
  obtain ⟨p, rfl⟩ := Int.eq_ofNat_of_zero_le h2
  rw [hn] at h3 hdef
  have HR := Lib.hid hr
  have HD := Lib.hid hdef
  clear hv hp he hr hdef
  by_cases e0 : er = 0
  · subst e0
    have hd2 := HD.out
    rw [if_neg (by simp)] at hd2
    obtain ⟨d, ed⟩ : ∃ d, n - p = d := ⟨_, rfl⟩
    have e1 : IntKind.i64.wrap ((n : Int) - (p : Int)) = (d : Int) := by rw [IntKind.wrap_i64]; omega
    have e2 : IntKind.u64.wrap (d : Int) = (d : Int) := by rw [IntKind.wrap_u64]; omega
    have e3 : IntKind.u64.wrap ((n : Int) - (p : Int)) = (d : Int) := by rw [IntKind.wrap_u64]; omega
    by_cases c1 : d < v
    · rw [if_pos (by omega)] at hd2
      rw [hd2]
      have d1 : decide ((v : Int) > (d : Int)) = true := decide_eq_true (by omega)
      have d2 : decide (d < v) = true := decide_eq_true c1
      clear HD hd2 ed c1
      go_enter Tryz.func118, Tryz.ntmps118
      go_wp2_with (go_at_call 96; refine HC.out.mono ?_; rintro e w' ⟨rfl, rfl⟩)
      go_ret3
      exact retB3_nil 40 _
    · have d1 : decide ((v : Int) > (d : Int)) = false := decide_eq_false (by omega)
      have d2 : decide (d < v) = false := decide_eq_false c1
      by_cases c2 : 1048576 < v
      · rw [if_pos (by omega)] at hd2
        rw [hd2]
        have d3 : decide ((v : Int) > 1048576) = true := decide_eq_true (by omega)
        have d4 : decide (1048576 < v) = true := decide_eq_true c2
        clear HD hd2 ed c1 c2
        go_enter Tryz.func118, Tryz.ntmps118
        go_wp2_with (go_at_call 96; refine HC.out.mono ?_; rintro e w' ⟨rfl, rfl⟩)
        go_ret3
        exact retB3_nil 40 _
      · rw [if_neg (by omega)] at hd2
        rw [hd2]
        have d3 : decide ((v : Int) > 1048576) = false := decide_eq_false (by omega)
        have d4 : decide (1048576 < v) = false := decide_eq_false c2
        have e5 : IntKind.i64.wrap (v : Int) = (v : Int) := by rw [IntKind.wrap_i64]; omega
        have c4 : p + v ≤ n := by omega
        obtain ⟨i0, hi, k2, k3, k4⟩ := info_parts Tryz.infoU8
        have hsl : ∀ W : World, (Instr.sliceAt 22 (.slice A n cap) (some (.int .i64 (p : Int))) (some (.int .i64 ((p : Int) + (v : Int)))) none).run Tryz.prog W = .ok (.slice (if cap = p then A else A.map (·.add (p * 1))) v (cap - p)) W := fun W => by
          have := slice_both Tryz.underlying22 hi k3 A n cap p (p + v) (by omega) (by omega) W
          rw [show p + v - p = v from by omega, Int.natCast_add] at this
          exact this
        have hcut := HR.out.cut (k := p) (by omega) hc
        obtain ⟨A2, hA2⟩ : ∃ A2, (if cap = p then A else A.map (·.add (p * 1))) = A2 := ⟨_, rfl⟩
        rw [hA2] at hsl hcut
        rw [Nat.mul_one, ← List.map_drop] at hcut
        have hlen : ((bs.drop p).take v).length = v := by simp [hn]; omega
        have hrd : Reads w w.heap.size 1 A2 v (((bs.drop p).take v).map bv) := by
          refine ⟨by rw [List.length_map, hlen, Nat.mul_one], fun hv0 => ?_⟩
          obtain ⟨ad, ea, hbl, hcells⟩ := hcut.2 (by omega)
          refine ⟨ad, ea, hbl, fun j u hu => hcells j u ?_⟩
          rw [List.map_take] at hu
          have hj : j < v := by
            have := (List.getElem?_eq_some_iff.1 hu).1
            rw [List.length_take] at this; omega
          rw [List.getElem?_take_of_lt hj] at hu
          exact hu
        obtain ⟨zs, hz⟩ : ∃ zs, (bs.drop p).take v = zs := ⟨_, rfl⟩
        rw [hz] at hrd hlen
        rw [show (bs.drop ((p : Int)).toNat).take v = zs from hz]
        have HRD := Lib.hid hrd
        have HL := Lib.hid hlen
        have hv9 : v ≤ 140737488351232 := by omega
        clear hcut hA2 hrd hlen hi k2 k3 k4 hz HD hd2 ed c1 c2
        go_enter Tryz.func118, Tryz.ntmps118
        go_wp2_with (first
          | (go_at_call 96; refine HC.out.mono ?_; rintro e w' ⟨rfl, rfl⟩)
          | (go_at_call 112; refine (copied_any A2 (cap - p) v (zs.map bv) _ HRD.out (bv_one _) (by omega)).mono ?_; intro e w2 h; obtain ⟨A3, c3', rfl, hr3, hc3, hm3, hb3, _⟩ := h.open; rw [List.length_map, HL.out] at hr3 hc3 ⊢; have HR3 := Lib.hid hr3; have HC3 := Lib.hid hc3; have HM3 := Lib.hid hm3; have HB3 := Lib.hid hb3; clear h hr3 hc3 hm3 hb3))
        go_ret3
        exact ⟨A3, v, c3', rfl, HR3.out, HC3.out, HM3.out, HB3.out⟩
  · have eb : ((er : Int) != 0) = true := by rw [bne_iff_ne]; omega
    have hd2 := HD.out
    rw [if_pos e0] at hd2
    rw [hd2]
    clear HD hd2
    go_enter Tryz.func118, Tryz.ntmps118
    go_wp2_with (go_at_call 96; refine HC.out.mono ?_; rintro e w' ⟨rfl, rfl⟩)
    go_ret3
    exact retB3_nil er _
end Go.Proofs.YthgiafjiemiifaaGreat
end
section
namespace Go.Proofs.YthgiafjiemiifaaGreat
open Go.RowKit OctMath
set_option linter.unusedVariables false
set_option maxRecDepth 100000 in
set_option maxHeartbeats 1000000 in
theorem rflag_any (A : Option Addr) (cap n p : Nat) (bs : List Nat) (w : World) (hb : Byt bs) (hn : bs.length = n) (hr : Reads w w.heap.size 1 A n (bs.map bv)) (hm : n ≤ maxLen) :
    Calls Tryz.prog 115 #[.slice A n cap, .int .i64 (p : Int)] w fun e w' => e = .returned (.tuple #[.bool (rdFl bs p).1, .int .i64 (rdFl bs p).2.1, .int .i64 (rdFl bs p).2.2]) ∧ w = w' := by
  unfold maxLen at hm
  have HR := Lib.hid (show rdFl bs p = if p < bs.length then (if bs.getD p 0 ≤ 1 then (decide (0 < bs.getD p 0), (p : Int) + 1, 0) else (false, 0, 41)) else if p = bs.length then (false, 0, 40) else (false, 0, 2) from rfl)
  rw [hn] at HR
  generalize rdFl bs p = r at *
  rcases Nat.lt_trichotomy p n with h | h | h
  · rw [if_pos h] at HR
    have d1 : decide ((p : Int) < 0) = false := decide_eq_false (by omega)
    have d2 : decide ((p : Int) > (n : Int)) = false := decide_eq_false (by omega)
    have d3 : decide (n < p) = false := decide_eq_false (by omega)
    have d4 : ((p : Int) == (n : Int)) = false := by rw [beq_eq_false_iff_ne]; omega
    obtain ⟨ad, rfl, hbl, hc⟩ := hr.byteD h
    have p0 : (0 : Int) ≤ (p : Int) := by omega
    have p1 : (p : Int) < (n : Int) := by omega
    have pb : (p : Int) + 1 ≤ 9223372036854775807 := by omega
    obtain ⟨x, hx⟩ : ∃ x, bs.getD p 0 = x := ⟨_, rfl⟩
    rw [hx] at HR hc
    clear hx
    by_cases h1 : x ≤ 1
    · rw [if_pos h1] at HR
      have d5 : decide ((x : Int) > 1) = false := decide_eq_false (by omega)
      have d6 : decide (1 < x) = false := decide_eq_false (by omega)
      go_enter Tryz.func115, Tryz.ntmps115
      go_wp2
      go_ret3
      rw [HR.out]
      refine ⟨?_, rfl⟩
      rcases (show x = 0 ∨ x = 1 by omega) with rfl | rfl <;> simp
    · rw [if_neg h1] at HR
      have d5 : decide ((x : Int) > 1) = true := decide_eq_true (by omega)
      have d6 : decide (1 < x) = true := decide_eq_true (by omega)
      go_enter Tryz.func115, Tryz.ntmps115
      go_wp2
      go_ret3
      rw [HR.out]
      exact ⟨rfl, rfl⟩
  · subst h
    rw [if_neg (by omega), if_pos rfl] at HR
    have d4 : ((p : Int) == (p : Int)) = true := by simp
    have d1 : decide ((p : Int) < 0) = false := decide_eq_false (by omega)
    have d2 : decide ((p : Int) > (p : Int)) = false := decide_eq_false (by omega)
    go_enter Tryz.func115, Tryz.ntmps115
    go_wp2
    go_ret3
    rw [HR.out]
    exact ⟨rfl, rfl⟩
  · rw [if_neg (by omega), if_neg (by omega)] at HR
    have d1 : decide ((p : Int) < 0) = false := decide_eq_false (by omega)
    have d2 : decide ((p : Int) > (n : Int)) = true := decide_eq_true (by omega)
    have d3 : decide (n < p) = true := decide_eq_true h
    go_enter Tryz.func115, Tryz.ntmps115
    go_wp2
    go_ret3
    rw [HR.out]
    exact ⟨rfl, rfl⟩
end Go.Proofs.YthgiafjiemiifaaGreat
end
