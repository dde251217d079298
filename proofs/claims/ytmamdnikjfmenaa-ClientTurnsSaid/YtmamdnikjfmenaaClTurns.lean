/-
  ClientTurns holds for every nodes and numbers: a client that hears nothing asks its nodes in turn.
-/
import Derived.Test.YtmamdnikjfmenaaClW9
namespace Go.Proofs.Ytmamdnikjfmenaa
open Go.RowKit
set_option linter.unusedVariables false
def Yes (W : World) (e : Ending) (w' : World) : Prop := e = .returned (.bool true) ∧ Below W.heap.size W w'
set_option maxRecDepth 100000 in
set_option maxHeartbeats 2000000 in
theorem turns_no (A : Option Addr) (n cap : Nat) (zs : List Int) (r t : Int) (W : World) (hl : zs.length = n) (HR : Hid (Reads W W.heap.size 1 A n (zs.map iv))) (hm : n * 8 ≤ 140737488355328) (hmay : ¬ May (Cal.new 2 zs r 1000)) :
    Calls Try.prog 4 #[.slice A n cap, .int .i64 r, .int .i64 t] W (Yes W) := by
  have HL := Lib.hid hl
  have HM := Lib.hid hmay
  clear hl hmay
  go_enter Try.func4, Try.ntmps4
  go_wp2_with (first
    | (go_at_call 8; refine (new_no 2 A n cap zs r 1000 _ HL.out HR hm (by omega) HM.out).mono ?_; rintro e w1 ⟨v, rfl, ⟨n1, N1, nc1, m1, D1, dc1, rfl, -⟩, hb⟩; have BB := Lib.hid hb; clear hb)
    | (refine wpl_store_blk rfl 40 (.tmp 7) (.tmp 20) rfl w1.heap.size 40 (#[.int .u64 0, .slice none 0 0, .int .i64 0, .int .i64 0, .int .u64 0, .bool false, .int .i64 0, .string ⟨#[]⟩, .slice none 0 0, .int .i64 0, .int .i64 0, .int .i64 0]) (Cal.zero.cs n1 N1 nc1 m1 D1 dc1) rfl rfl (Blk.new _ _ _) rfl Try.sizeC rfl ?_; intro w2 hB hO; have BB := Lib.hid (BB.out.trans ((((Below.refl w1.heap.size w1).alloc (Nat.le_refl _) (.cells #[.int .u64 0, .slice none 0 0, .int .i64 0, .int .i64 0, .int .u64 0, .bool false, .int .i64 0, .string ⟨#[]⟩, .slice none 0 0, .int .i64 0, .int .i64 0, .int .i64 0] 40)).trans (hO.out.below (Nat.le_refl _))).mono BB.out.size)); clear hB hO)
    | (go_at_call 9; refine (heads_true _).mono ?_; rintro e w9 ⟨rfl, hb⟩; have HB9 := Lib.hid hb; clear hb))
  go_ret
  exact ⟨rfl, bel_trans BB.out HB9.out⟩
set_option maxRecDepth 100000 in
set_option maxHeartbeats 2000000 in
theorem turns_far (A : Option Addr) (n cap : Nat) (zs : List Int) (r t : Int) (W : World) (hl : zs.length = n) (HR : Hid (Reads W W.heap.size 1 A n (zs.map iv))) (hm : n * 8 ≤ 140737488355328) (hmay : May (Cal.new 2 zs r 1000)) (ht : t < 0 ∨ 300 < t) :
    Calls Try.prog 4 #[.slice A n cap, .int .i64 r, .int .i64 t] W (Yes W) := by
  have HL := Lib.hid hl
  have HM := Lib.hid hmay
  clear hl hmay
  rcases ht with ht | ht
  · go_enter Try.func4, Try.ntmps4
    go_wp2_with (first
      | (go_at_call 8; refine (new_yes 2 A n cap zs r 1000 _ HL.out HR hm (by omega) HM.out).mono ?_; rintro e w1 ⟨N, nc, rfl, q1, q2, q3, hb⟩; have BB := Lib.hid hb; clear hb q3)
      | (refine wpl_store_blk rfl 40 (.tmp 7) (.tmp 20) rfl w1.heap.size 40 (#[.int .u64 0, .slice none 0 0, .int .i64 0, .int .i64 0, .int .u64 0, .bool false, .int .i64 0, .string ⟨#[]⟩, .slice none 0 0, .int .i64 0, .int .i64 0, .int .i64 0]) ((Cal.new 2 zs r 1000).cs n N nc 0 none 0) rfl rfl (Blk.new _ _ _) rfl Try.sizeC rfl ?_; intro w2 hB hO; have BB := Lib.hid (BB.out.trans ((((Below.refl w1.heap.size w1).alloc (Nat.le_refl _) (.cells #[.int .u64 0, .slice none 0 0, .int .i64 0, .int .i64 0, .int .u64 0, .bool false, .int .i64 0, .string ⟨#[]⟩, .slice none 0 0, .int .i64 0, .int .i64 0, .int .i64 0] 40)).trans (hO.out.below (Nat.le_refl _))).mono BB.out.size)); clear hB hO)
      | (go_at_call 9; refine (heads_true _).mono ?_; rintro e w9 ⟨rfl, hb⟩; have HB9 := Lib.hid hb; clear hb))
    go_ret
    exact ⟨rfl, bel_trans BB.out HB9.out⟩
  · have ht' : 0 ≤ t := by omega
    go_enter Try.func4, Try.ntmps4
    go_wp2_with (first
      | (go_at_call 8; refine (new_yes 2 A n cap zs r 1000 _ HL.out HR hm (by omega) HM.out).mono ?_; rintro e w1 ⟨N, nc, rfl, q1, q2, q3, hb⟩; have BB := Lib.hid hb; clear hb q3)
      | (refine wpl_store_blk rfl 40 (.tmp 7) (.tmp 20) rfl w1.heap.size 40 (#[.int .u64 0, .slice none 0 0, .int .i64 0, .int .i64 0, .int .u64 0, .bool false, .int .i64 0, .string ⟨#[]⟩, .slice none 0 0, .int .i64 0, .int .i64 0, .int .i64 0]) ((Cal.new 2 zs r 1000).cs n N nc 0 none 0) rfl rfl (Blk.new _ _ _) rfl Try.sizeC rfl ?_; intro w2 hB hO; have BB := Lib.hid (BB.out.trans ((((Below.refl w1.heap.size w1).alloc (Nat.le_refl _) (.cells #[.int .u64 0, .slice none 0 0, .int .i64 0, .int .i64 0, .int .u64 0, .bool false, .int .i64 0, .string ⟨#[]⟩, .slice none 0 0, .int .i64 0, .int .i64 0, .int .i64 0] 40)).trans (hO.out.below (Nat.le_refl _))).mono BB.out.size)); clear hB hO)
      | (go_at_call 9; refine (heads_true _).mono ?_; rintro e w9 ⟨rfl, hb⟩; have HB9 := Lib.hid hb; clear hb))
    go_ret
    exact ⟨rfl, bel_trans BB.out HB9.out⟩
def tst (zs : List Int) (r n i : Nat) : Cal := { (Cal.new 2 zs r 1000).calls 4 ⟨#[]⟩ [] with waited := (i : Int), turn := ((i / r % n : Nat) : Int), at_ := ((i / r % n : Nat) : Int) }
theorem tst_zero (zs : List Int) (r n : Nat) : tst zs r n 0 = (Cal.new 2 zs r 1000).calls 4 ⟨#[]⟩ [] := by simp [tst, Cal.calls, Cal.new]
theorem tst_to (zs : List Int) (r n i : Nat) : (tst zs r n i).to = zs.getD (i / r % n) 0 := by
  show zs.getD (((i / r % n : Nat) : Int)).toNat 0 = _
  rw [Int.toNat_natCast]
theorem div_same {i r : Nat} (hr : 0 < r) (h : (i + 1) % r ≠ 0) : (i + 1) / r = i / r := by
  have h1 := Nat.div_add_mod i r
  have h2 := Nat.mod_lt i hr
  have h3 : i % r + 1 < r := by
    rcases Nat.lt_or_ge (i % r + 1) r with h4 | h4
    · exact h4
    · have e : i + 1 = r * (i / r + 1) := by rw [Nat.mul_add, Nat.mul_one]; omega
      rw [e, Nat.mul_mod_right] at h
      exact absurd rfl h
  have e : i + 1 = r * (i / r) + (i % r + 1) := by omega
  calc (i + 1) / r = (r * (i / r) + (i % r + 1)) / r := by rw [← e]
    _ = i / r + (i % r + 1) / r := by rw [Nat.mul_add_div hr]
    _ = i / r := by rw [Nat.div_eq_of_lt h3, Nat.add_zero]
theorem div_next {i r : Nat} (hr : 0 < r) (h : (i + 1) % r = 0) : (i + 1) / r = i / r + 1 := by
  have h1 := Nat.div_add_mod i r
  have h2 := Nat.mod_lt i hr
  have h5 := Nat.div_add_mod (i + 1) r
  rw [h, Nat.add_zero] at h5
  have e1 : r * ((i + 1) / r) = r * (i / r) + (i % r + 1) := by omega
  have h6 : i / r < (i + 1) / r := by
    rcases Nat.lt_or_ge (i / r) ((i + 1) / r) with h7 | h7
    · exact h7
    · have := Nat.mul_le_mul_left r h7; omega
  have h8 : (i + 1) / r ≤ i / r + 1 := by
    rcases Nat.lt_or_ge (i / r + 1) ((i + 1) / r) with h7 | h7
    · have := Nat.mul_le_mul_left r h7
      rw [Nat.mul_succ, Nat.mul_succ] at this
      omega
    · exact h7
  omega
theorem tst_wait (zs : List Int) {r : Nat} (n i : Nat) (hr : 0 < r) (h : (i + 1) % r ≠ 0) : { tst zs r n i with waited := (tst zs r n i).waited + 1 } = tst zs r n (i + 1) := by
  unfold tst
  rw [div_same hr h]
  simp
theorem tst_turn {r : Nat} (n i : Nat) (hr : 0 < r) (h : (i + 1) % r = 0) : (((i / r % n : Nat) : Int) + 1) % (n : Int) = (((i + 1) / r % n : Nat) : Int) := by
  rw [div_next hr h, ← Nat.mod_add_mod]
  simp
theorem tst_ask (zs : List Int) {r : Nat} (n i : Nat) (hr : 0 < r) (h : (i + 1) % r = 0) : { tst zs r n i with waited := (tst zs r n i).waited + 1, turn := ((tst zs r n i).turn + 1) % (n : Int), at_ := ((tst zs r n i).turn + 1) % (n : Int) } = tst zs r n (i + 1) := by
  have e := tst_turn n i hr h
  unfold tst
  simp only [e]
  simp
theorem tst_may {zs : List Int} {r n i : Nat} (h : May (Cal.new 2 zs r 1000)) (hl : zs.length = n) (hi : i ≤ 1000) : May (tst zs r n i) := by
  have hn := h.n0
  have hn' : 0 < n := by rw [← hl]; exact hn
  have hlt : i / r % n < n := Nat.mod_lt _ hn'
  refine ⟨h.c1, h.c2, h.n0, h.r1, h.r2, h.l1, h.nodes, Int.natCast_nonneg _, ?_, Int.natCast_nonneg _, ?_, Int.natCast_nonneg _, ?_, (by decide : (0 + 1 : Nat) < 4611686018427387904)⟩
  · show ((i / r % n : Nat) : Int) < (zs.length : Int); rw [hl]; omega
  · show ((i / r % n : Nat) : Int) < (zs.length : Int); rw [hl]; omega
  · show (i : Int) ≤ 1000; omega
/-- Behind so many ticks. -/
structure TSt (zs : List Int) (r n : Nat) (N : Option Addr) (nc : Nat) (F : Option Addr) (fc b7 b9 um : Nat) (U : Option Addr) (uc : Nat) (w1 : World) (i : Nat) (wr : World) : Prop where
  B7 : Blk wr b7 40 ((tst zs r n i).cs n N nc 0 F fc)
  B9 : Blk wr b9 38 (askCs (tst zs r n 0) (zs.getD 0 0) um U uc)
  nb : Below b7 w1 wr
  sz : b9 + 1 ≤ wr.heap.size
theorem TSt.drewN {zs : List Int} {r n : Nat} {N : Option Addr} {nc : Nat} {F : Option Addr} {fc b7 b9 um : Nat} {U : Option Addr} {uc : Nat} {w1 : World} {i : Nat} {wr : World} (h : TSt zs r n N nc F fc b7 b9 um U uc w1 i wr) (d : Nat) : TSt zs r n N nc F fc b7 b9 um U uc w1 i (wr.drewN d) :=
  ⟨h.B7.drewN d, h.B9.drewN d, bel_drewN h.nb d, h.sz⟩
section
variable {zs : List Int} {r n : Nat} {N : Option Addr} {nc : Nat} {F : Option Addr} {fc b7 b9 um : Nat} {U : Option Addr} {uc : Nat} {w1 : World} {i : Nat} {wr w' : World}
theorem tst_later (h : TSt zs r n N nc F fc b7 b9 um U uc w1 i wr) (hb : Below wr.heap.size wr w') (hs : b7 ≤ wr.heap.size) : TSt zs r n N nc F fc b7 b9 um U uc w1 i w' :=
  ⟨h.B7.below hb h.B7.lt, h.B9.below hb h.B9.lt, h.nb.trans (hb.mono hs), Nat.le_trans h.sz hb.size⟩
theorem tst_only {g : Nat} (h : TSt zs r n N nc F fc b7 b9 um U uc w1 i wr) (hO : Only g wr w') (h7 : b7 < g) (h9 : b9 < g) : TSt zs r n N nc F fc b7 b9 um U uc w1 i w' :=
  ⟨hO.blk h.B7 (by omega), hO.blk h.B9 (by omega), h.nb.trans (hO.below (by omega)), by rw [hO.size]; exact h.sz⟩
theorem tst_step (h : TSt zs r n N nc F fc b7 b9 um U uc w1 i wr) (hO : Only b7 wr w') (hB : Blk w' b7 40 ((tst zs r n (i + 1)).cs n N nc 0 F fc)) (h9 : b7 < b9) : TSt zs r n N nc F fc b7 b9 um U uc w1 (i + 1) w' :=
  ⟨hB, hO.blk h.B9 (by omega), h.nb.trans (hO.below (Nat.le_refl _)), by rw [hO.size]; exact h.sz⟩
end
set_option maxRecDepth 100000 in
set_option maxHeartbeats 4000000 in
theorem turns_ok (A : Option Addr) (n cap : Nat) (zs : List Int) (r T : Nat) (W : World) (hl : zs.length = n) (HR : Hid (Reads W W.heap.size 1 A n (zs.map iv))) (hm : n * 8 ≤ 140737488355328) (hmay : May (Cal.new 2 zs r 1000)) (hT : T ≤ 300) :
    Calls Try.prog 4 #[.slice A n cap, .int .i64 r, .int .i64 T] W (Yes W) := by
  have hr0 : 0 < r := by have := hmay.r1; simp [Cal.new] at this; omega
  have hr1 : r ≤ 1000 := by have := hmay.r2; simp [Cal.new] at this; omega
  have hn0 : 0 < n := by have := hmay.n0; simp [Cal.new] at this; omega
  have HL := Lib.hid hl
  have HM := Lib.hid hmay
  clear hl hmay
  obtain ⟨ad, rfl, _, -⟩ := HR.out.int_ hn0
  have e0 : (0 : Int) ≤ (T : Int) := by omega
  go_enter Try.func4, Try.ntmps4
  go_wp2_with (first
    | (go_at_call 8; refine (new_yes 2 (some ad) n cap zs r 1000 _ HL.out HR hm (by omega) HM.out).mono ?_; rintro e w1 ⟨N, nc, rfl, q1, q2, q3, hb⟩; have RN := Lib.hid (Reads.of_own q3); have BB := Lib.hid hb; clear hb q3)
    | (refine wpl_store_blk rfl 40 (.tmp 7) (.tmp 20) rfl w1.heap.size 40 (#[.int .u64 0, .slice none 0 0, .int .i64 0, .int .i64 0, .int .u64 0, .bool false, .int .i64 0, .string ⟨#[]⟩, .slice none 0 0, .int .i64 0, .int .i64 0, .int .i64 0]) ((Cal.new 2 zs r 1000).cs n N nc 0 none 0) rfl rfl (Blk.new _ _ _) rfl Try.sizeC rfl ?_; intro w2 hB hO; have B1 := hB; have NB := Lib.hid (((Below.refl w1.heap.size w1).alloc (Nat.le_refl _) (.cells #[.int .u64 0, .slice none 0 0, .int .i64 0, .int .i64 0, .int .u64 0, .bool false, .int .i64 0, .string ⟨#[]⟩, .slice none 0 0, .int .i64 0, .int .i64 0, .int .i64 0] 40)).trans (hO.out.below (Nat.le_refl _))); have SZ := Lib.hid (show w2.heap.size = w1.heap.size + 1 from by rw [hO.out.size]; simp); clear hB hO)
    | (refine wpl_load_blk rfl 40 (.tmp 7) rfl w1.heap.size 40 _ _ rfl B1.out Try.underlying40 rfl Try.sizeC ?_)
    | (go_at_call 11; have cin := Lib.hid (calin_empty (c := Cal.new 2 zs r 1000) (D := none) (dc := 0) HL.out rfl (RN.out.below NB.out) q1 q2 (by unfold maxLen; omega)); refine (call_yes (Cal.new 2 zs r 1000) n N nc 0 none 0 4 ⟨#[]⟩ none 0 0 [] _ cin HM.out rfl rfl (Lib.hid Reads.none_) (fun x hx => by cases hx) (by omega) callable_list).mono ?_; rintro e w3 ⟨m, F, fc, u, rfl, hm, f1, f2, f3, ⟨um, U, uc, rfl, u1, u2, u3, u4⟩, hb⟩; obtain rfl : m = 0 := hm.symm; have B1 := Lib.hid (B1.out.below hb B1.out.lt); have NB := Lib.hid (NB.out.trans (hb.mono (by rw [SZ.out]; omega))); have SZ := Lib.hid (show w1.heap.size + 1 ≤ w3.heap.size from by have := hb.size; have := SZ.out; omega); clear hm f3 u4 hb cin)
    | (refine wpl_store_blk rfl 40 (.tmp 7) (.tmp 36) rfl w1.heap.size 40 ((Cal.new 2 zs r 1000).cs n N nc 0 none 0) (((Cal.new 2 zs r 1000).calls 4 ⟨#[]⟩ []).cs n N nc 0 F fc) rfl rfl (B1.out.alloc _) rfl Try.sizeC rfl ?_; intro w4 hB hO; have B1 := hB; have Z3 := Lib.hid (hO.out.blk (Blk.new w3 38 msgZ) (by have := SZ.out; omega)); have NB := Lib.hid ((NB.out.alloc (by have := SZ.out; omega) (.cells msgZ 38)).trans (hO.out.below (Nat.le_refl _))); have SZ4 := Lib.hid (show w3.heap.size + 1 ≤ w4.heap.size from by rw [hO.out.size]; simp); clear hB hO)
    | (refine wpl_store_blk rfl 38 (.tmp 9) (.tmp 37) rfl w3.heap.size 38 (msgZ) (askCs ((Cal.new 2 zs r 1000).calls 4 ⟨#[]⟩ []) ((Cal.new 2 zs r 1000).calls 4 ⟨#[]⟩ []).to um U uc) rfl rfl (Z3.out) rfl Try.sizeM rfl ?_; intro w5 hB hO; have B3 := hB; have B1 := Lib.hid (hO.out.blk B1.out (by have := SZ.out; omega)); have NB := Lib.hid (NB.out.trans (hO.out.below (by have := SZ.out; omega))); have SZ5 := Lib.hid (show w3.heap.size + 1 ≤ w5.heap.size from by rw [hO.out.size]; exact SZ4.out); have y2 : w5.cell? ⟨w3.heap.size, 2, none⟩ = some (.int .i64 (zs.getD 0 0)) := (B3.out.cell 2); clear hB hO))
  have hw5 : W.heap.size ≤ w5.heap.size := by have := SZ5.out; have := SZ.out; have := BB.out.size; omega
  have bw5 : Below W.heap.size W w5 := BB.out.trans (NB.out.mono BB.out.size)
  obtain ⟨ad', hadd, _, hc0⟩ := (HR.out.below bw5).int_ hn0
  cases hadd
  rw [show ad.add 0 = ad from by simp [Addr.add]] at hc0
  have BW5 := Lib.hid bw5
  have e5 : decide ((0 : Int) < (n : Int)) = true := decide_eq_true (by omega)
  clear hw5 bw5
  go_quiet (fail)
  go_wp2
  have HST : Hid (TSt zs r n N nc F fc w1.heap.size w3.heap.size um U uc w1 0 (w5.drewN nq)) := Lib.hid ⟨by rw [tst_zero]; exact B1.out.drewN nq, by rw [tst_zero]; exact B3.out.drewN nq, bel_drewN NB.out nq, SZ5.out⟩
  clear hc0 y2 B1 B3 NB BW5 SZ4 SZ5 Z3 e5
  go_loopw [11, 12, 13, 14, 15] (fun va vi _ _ _ wr => ∃ i : Nat, i ≤ T ∧ vi = .int .i64 ((i : Int) + 1) ∧ va = .int .i64 ((i / r % n : Nat) : Int) ∧ Hid (TSt zs r n N nc F fc w1.heap.size w3.heap.size um U uc w1 i wr)) (fun _ vi _ _ _ _ => T + 1 - (intOf vi).toNat)
  case atStart => exact ⟨0, by omega, rfl, by simp, HST⟩
  case round =>
    obtain ⟨i, hi, rfl, rfl, hst⟩ := hrel
    clear HST
    obtain ⟨a, ha⟩ : ∃ a, i / r % n = a := ⟨_, rfl⟩
    have HA := Lib.hid ha
    rw [ha]
    have han : a < n := by rw [← ha]; exact Nat.mod_lt _ hn0
    clear ha
    by_cases hlt : i < T
    · have B7 := Lib.hid hst.out.B7
      have MAY := Lib.hid (tst_may HM.out HL.out (i := i) (by omega))
      have cin := Lib.hid (calin_empty (w := wr) (c := tst zs r n i) (n := n) (N := N) (nc := nc) (D := F) (dc := fc) HL.out rfl (RN.out.below hst.out.nb) q1 q2 f2)
      by_cases hmod : (i + 1) % r = 0
      · have hmI : ((i : Int) + 1) % (r : Int) = 0 := by have := congrArg (fun x : Nat => (x : Int)) hmod; simpa using this
        have HMOD := Lib.hid hmod
        clear hmod
        go_wp2_with (first
          | (refine wpl_load_blk rfl 40 (.tmp 7) rfl w1.heap.size 40 _ _ rfl B7.out Try.underlying40 rfl Try.sizeC ?_)
          | (go_at_call 13; refine (tick_asks (tst zs r n i) n N nc 0 F fc _ cin MAY.out rfl (by show (i : Int) + 1 ≤ 1000; omega) hmI (by omega) (tst zs r n (i + 1)) (tst_ask zs n i hr0 HMOD.out)).mono ?_; rintro e w6 ⟨g, vm, V, vc, rfl, hb, hg, hgm, -⟩; have st6 := Lib.hid (tst_later hst.out hb (by have := SZ.out; have := hst.out.sz; omega)); have G1 := Lib.hid hgm; have GL := Lib.hid (Nat.le_trans hst.out.sz hg); have G0 := Lib.hid hgm.lt; clear hb hg hgm)
          | (refine wpl_store_blk rfl 40 (.tmp 13) (.tmp 57) rfl w6.heap.size 40 (#[.int .u64 0, .slice none 0 0, .int .i64 0, .int .i64 0, .int .u64 0, .bool false, .int .i64 0, .string ⟨#[]⟩, .slice none 0 0, .int .i64 0, .int .i64 0, .int .i64 0]) ((tst zs r n (i + 1)).cs n N nc 0 F fc) rfl rfl ((Blk.new _ _ _).alloc _) rfl Try.sizeC rfl ?_; intro w7 hB hO; have B13 := hB; have st7 := Lib.hid (tst_only (tst_later (tst_later st6.out ((Below.refl _ _).alloc (Nat.le_refl _) (.cells #[.int .u64 0, .slice none 0 0, .int .i64 0, .int .i64 0, .int .u64 0, .bool false, .int .i64 0, .string ⟨#[]⟩, .slice none 0 0, .int .i64 0, .int .i64 0, .int .i64 0] 40)) (by have := SZ.out; have := st6.out.sz; omega)) ((Below.refl _ _).alloc (Nat.le_refl _) (.cells (ansZ 0) 47)) (by have := SZ.out; have := st6.out.sz; simp; omega)) hO.out (by have := SZ.out; have := st6.out.sz; omega) (by have := st6.out.sz; omega)); have Z15 := Lib.hid (hO.out.blk (blk_second w6 _ _ _) (by omega)); have S7 := Lib.hid (show w6.heap.size + 2 ≤ w7.heap.size from by rw [hO.out.size]; simp); have G1 := Lib.hid (hO.out.blk ((G1.out.alloc _).alloc _) (by have := G0.out; omega)); clear hB hO)
          | (refine wpl_store_blk rfl 47 (.tmp 15) (.tmp 59) rfl (w6.heap.size + 1) 47 (ansZ 0) (ansZ 0) rfl rfl (Z15.out) rfl Try.sizeA rfl ?_; intro w8 hB hO; have B15 := hB; have B13 := Lib.hid (hO.out.blk B13.out (by omega)); have st8 := Lib.hid (tst_only st7.out hO.out (by have := SZ.out; have := st6.out.sz; omega) (by have := st6.out.sz; omega)); have S8 := Lib.hid (show w6.heap.size + 2 ≤ w8.heap.size from by rw [hO.out.size]; exact S7.out); have G1 := Lib.hid (hO.out.blk G1.out (by have := G0.out; omega)); clear hB hO)
          | (refine wpl_load_blk rfl 40 (.tmp 13) rfl w6.heap.size 40 _ _ rfl B13.out Try.underlying40 rfl Try.sizeC ?_)
          | (refine wpl_store_blk rfl 40 (.tmp 7) (.tmp 60) rfl w1.heap.size 40 ((tst zs r n i).cs n N nc 0 F fc) ((tst zs r n (i + 1)).cs n N nc 0 F fc) rfl rfl (st8.out.B7) rfl Try.sizeC rfl ?_; intro w9 hB hO; have st9 := Lib.hid (tst_step st8.out hO.out hB.out (by have := SZ.out; omega)); have a0 : w9.cell? ⟨w6.heap.size + 1, 0, none⟩ = some (.int .i64 0) := (hO.out.blk B15.out (by have := SZ.out; have := st6.out.sz; omega)).cell 0; have S9 := Lib.hid (show w6.heap.size + 2 ≤ w9.heap.size from by rw [hO.out.size]; exact S8.out); have G1 := Lib.hid (hO.out.blk G1.out (by have := GL.out; have := SZ.out; omega)); clear hB hO))
        have ea := tst_turn n i hr0 HMOD.out
        rw [HA.out] at ea
        obtain ⟨a', ha'⟩ : ∃ a', (i + 1) / r % n = a' := ⟨_, rfl⟩
        have HA' := Lib.hid ha'
        rw [ha'] at ea
        rw [ea]
        have han' : a' < n := by rw [← ha']; exact Nat.mod_lt _ hn0
        have g2 : w9.cell? ⟨g, 2, none⟩ = some (.int .i64 (zs.getD a' 0)) := by have h2 : w9.cell? ⟨g, 2, none⟩ = some (.int .i64 (tst zs r n (i + 1)).to) := G1.out.cell 2; rw [h2, tst_to, ha']
        have g22 : w9.cell? ⟨g, 22, none⟩ = some (.int .u64 1) := G1.out.cell 22
        have y22 : w9.cell? ⟨w3.heap.size, 22, none⟩ = some (.int .u64 1) := st9.out.B9.cell 22
        obtain ⟨ad', hadd, _, hca⟩ := (HR.out.below (BB.out.trans (st9.out.nb.mono BB.out.size))).int_ han'
        cases hadd
        clear ha' ea hmI
        have i1 : (0 : Int) ≤ (a' : Int) := by omega
        have i2 : (a' : Int) < (n : Int) := by omega
        obtain ⟨to, hto⟩ : ∃ to, zs.getD a' 0 = to := ⟨_, rfl⟩
        rw [hto] at g2 hca
        clear hto
        go_quiet (fail)
        go_wp2
        exact ⟨⟨i + 1, by omega, by simp, by rw [HA'.out], Lib.hid (st9.out.drewN _)⟩, by simp [intOf]; omega⟩
      · obtain ⟨mm, hmm⟩ : ∃ mm, (i + 1) % r = mm := ⟨_, rfl⟩
        have hmI : ((i : Int) + 1) % (r : Int) = (mm : Int) := by have := congrArg (fun x : Nat => (x : Int)) hmm; simpa using this
        have HMOD := Lib.hid hmod
        have hmp : 0 < mm := by omega
        have HW := Lib.hid (tst_wait zs n i hr0 hmod)
        have ha2 : (i + 1) / r % n = a := by rw [div_same hr0 hmod]; exact HA.out
        have HA2 := Lib.hid ha2
        have m1 : ((mm : Int) == 0) = false := by simp; omega
        have m2 : decide ((mm : Int) = 0) = false := decide_eq_false (by omega)
        clear hmod hmm ha2
        go_wp2_with (first
          | (refine wpl_load_blk rfl 40 (.tmp 7) rfl w1.heap.size 40 _ _ rfl B7.out Try.underlying40 rfl Try.sizeC ?_)
          | (go_at_call 13; refine (tick_waits (tst zs r n i) n N nc 0 F fc _ cin MAY.out rfl (by show (i : Int) + 1 ≤ 1000; omega) (by show 0 < ((i : Int) + 1) % (r : Int); rw [hmI]; omega)).mono ?_; rw [HW.out]; rintro e w6 ⟨rfl, hb⟩; have st6 := Lib.hid (tst_later hst.out hb (by have := SZ.out; have := hst.out.sz; omega)); clear hb)
          | (refine wpl_store_blk rfl 40 (.tmp 13) (.tmp 57) rfl w6.heap.size 40 (#[.int .u64 0, .slice none 0 0, .int .i64 0, .int .i64 0, .int .u64 0, .bool false, .int .i64 0, .string ⟨#[]⟩, .slice none 0 0, .int .i64 0, .int .i64 0, .int .i64 0]) ((tst zs r n (i + 1)).cs n N nc 0 F fc) rfl rfl ((Blk.new _ _ _).alloc _) rfl Try.sizeC rfl ?_; intro w7 hB hO; have B13 := hB; have st7 := Lib.hid (tst_only (tst_later (tst_later st6.out ((Below.refl _ _).alloc (Nat.le_refl _) (.cells #[.int .u64 0, .slice none 0 0, .int .i64 0, .int .i64 0, .int .u64 0, .bool false, .int .i64 0, .string ⟨#[]⟩, .slice none 0 0, .int .i64 0, .int .i64 0, .int .i64 0] 40)) (by have := SZ.out; have := st6.out.sz; omega)) ((Below.refl _ _).alloc (Nat.le_refl _) (.cells (ansZ 0) 47)) (by have := SZ.out; have := st6.out.sz; simp; omega)) hO.out (by have := SZ.out; have := st6.out.sz; omega) (by have := st6.out.sz; omega)); have Z15 := Lib.hid (hO.out.blk (blk_second w6 _ _ _) (by omega)); have S7 := Lib.hid (show w6.heap.size + 2 ≤ w7.heap.size from by rw [hO.out.size]; simp); clear hB hO)
          | (refine wpl_store_blk rfl 47 (.tmp 15) (.tmp 59) rfl (w6.heap.size + 1) 47 (ansZ 0) (ansZ 0) rfl rfl (Z15.out) rfl Try.sizeA rfl ?_; intro w8 hB hO; have B15 := hB; have B13 := Lib.hid (hO.out.blk B13.out (by omega)); have st8 := Lib.hid (tst_only st7.out hO.out (by have := SZ.out; have := st6.out.sz; omega) (by have := st6.out.sz; omega)); have S8 := Lib.hid (show w6.heap.size + 2 ≤ w8.heap.size from by rw [hO.out.size]; exact S7.out); clear hB hO)
          | (refine wpl_load_blk rfl 40 (.tmp 13) rfl w6.heap.size 40 _ _ rfl B13.out Try.underlying40 rfl Try.sizeC ?_)
          | (refine wpl_store_blk rfl 40 (.tmp 7) (.tmp 60) rfl w1.heap.size 40 ((tst zs r n i).cs n N nc 0 F fc) ((tst zs r n (i + 1)).cs n N nc 0 F fc) rfl rfl (st8.out.B7) rfl Try.sizeC rfl ?_; intro w9 hB hO; have st9 := Lib.hid (tst_step st8.out hO.out hB.out (by have := SZ.out; omega)); have a0 : w9.cell? ⟨w6.heap.size + 1, 0, none⟩ = some (.int .i64 0) := (hO.out.blk B15.out (by have := SZ.out; have := st6.out.sz; omega)).cell 0; have S9 := Lib.hid (show w6.heap.size + 2 ≤ w9.heap.size from by rw [hO.out.size]; exact S8.out); clear hB hO))
        exact ⟨⟨i + 1, by omega, by simp, by rw [HA2.out], Lib.hid st9.out⟩, by simp [intOf]; omega⟩
    · obtain rfl : i = T := by omega
      go_wp2_with (go_at_call 9; refine (heads_true _).mono ?_; rintro e w9 ⟨rfl, hb⟩; have HB9 := Lib.hid hb; clear hb)
      go_ret
      exact ⟨rfl, bel_trans (BB.out.trans (hst.out.nb.mono BB.out.size)) HB9.out⟩
theorem walk_ClientTurns (W : World) (A : Option Addr) (n cap : Nat) (z : List Int) (h : Ints .i64 W A n cap z) (s : n * 8 ≤ 140737488351232) (a : Int) (wa : (Lit.int .i64 a).wf = true) (b : Int) (wb : (Lit.int .i64 b).wf = true) :
    Calls Try.prog 4 #[.slice A n cap, .int .i64 a, .int .i64 b] W (Yes W) := by
  obtain ⟨h1, h2, h3, h4, h5⟩ := h
  have HR : Hid (Reads W W.heap.size 1 A n (z.map iv)) := Lib.hid h1
  by_cases hm : May (Cal.new 2 z a 1000)
  · by_cases hb : b < 0 ∨ 300 < b
    · exact turns_far A n cap z a b W h3 HR (by omega) hm hb
    · have hr := hm.r1
      simp only [Cal.new] at hr
      obtain ⟨r, rfl⟩ : ∃ n : Nat, a = (n : Int) := ⟨a.toNat, by omega⟩
      obtain ⟨T, rfl⟩ : ∃ n : Nat, b = (n : Int) := ⟨b.toNat, by omega⟩
      exact turns_ok A n cap z r T W h3 HR (by omega) hm (by omega)
  · exact turns_no A n cap z a b W h3 HR (by omega) hm
namespace clientTurns
open Go.ChangeShapes Go.WideShapes Go.ChangeAt Go.RowKit
open Go.ChangeMaps (open_string shut_string)
set_option linter.unusedVariables false
theorem own : ownKnob Try.prog.godebug = none := by kernel_rfl
theorem laidOut : laidOutB Try.prog = true := by kernel_rfl
set_option maxRecDepth 100000 in
theorem contract (H : Type) (enc : TypeId × Value → H) (W : World) (base : Nat) (args : Array Value) (ds gs : List (DataW H)) (before : List MemPlace)
    (hval0 : ∀ (j : Nat) t v, Try.f4.params[j]? = some t → args[j]? = some v → Value.okWide Try.prog W .any base t v)
    (hW : DataW.Whole enc Try.prog Try.f4.params.toList Rows.clientTurnsSpec.vars false W args.toList ds gs before) (hsz : (DataW.weightsEach Try.prog (Try.f4.params.toList ++ Rows.clientTurnsSpec.plain.varTypes Try.prog) (ds ++ gs)).all (· ≤ reachBytes) = true) :
    Calls Try.prog 4 args W fun e W' => ∃ v, e = .returned v ∧ Rows.clientTurnsSpec.post enc Try.prog Try.f4 false true false false W args v W' := by
  have hval : ∀ (j : Nat) t v, Try.f4.params[j]? = some t → args[j]? = some v → Value.okWide Try.prog W .any base t v := hval0
  have hW' := hW
  obtain ⟨p, q, hA0, hV, rfl, hfz, hnd⟩ := hW
  have hA : DataW.TrodAll enc Try.prog W 0 (fun _ => true) true Try.f4.params.toList args.toList ds p := hA0
  rw [Try.params4] at hA hval
  obtain ⟨v0, vs0, d0, ds0, p0, q0, hargs, rfl, rfl, h0, r0⟩ := trodAll_cons hA
  obtain ⟨v1, vs1, d1, ds1, p1, q1, rfl, rfl, rfl, h1, r1⟩ := trodAll_cons r0
  obtain ⟨v2, vs2, d2, ds2, p2, q2, rfl, rfl, rfl, h2, r2⟩ := trodAll_cons r1
  obtain ⟨rfl, rfl, rfl⟩ := trodAll_nil r2
  obtain rfl : args = #[v0, v1, v2] := by cases args; simp_all
  obtain ⟨rfl, rfl⟩ := trodVars_none hV
  have k0 := h0
  have lt0 : ∀ x ∈ p0, x.block < W.heap.size := by obtain ⟨m, hm⟩ := k0; exact DataW.trod_lt m _ _ _ hm
  have k1 := h1
  have lt1 : ∀ x ∈ p1, x.block < W.heap.size := by obtain ⟨m, hm⟩ := k1; exact DataW.trod_lt m _ _ _ hm
  have k2 := h2
  have lt2 : ∀ x ∈ p2, x.block < W.heap.size := by obtain ⟨m, hm⟩ := k2; exact DataW.trod_lt m _ _ _ hm
  obtain ⟨A0, len0, cap0, rfl⟩ := okWide_slice Try.underlying25 (hval 0 25 v0 rfl rfl)
  obtain ⟨z0, w0⟩ := open_in_ints Try.underlying25 Try.underlying3 (by kernel_rfl) h0
  have s0 := ints_reach (b := 8) Try.underlying25 Try.underlying3 (by kernel_rfl) h0 (fun el sr hd => by have := sized_slice hsz (j := 0) (t := 25) (e := 3) (elems := el) (spare := sr) rfl (by subst hd; rfl) Try.underlying25; rwa [show Try.prog.bytesOf 3 = 8 from by kernel_rfl] at this)
  obtain ⟨a1, rfl, rfl, rfl, w1⟩ := open_int Try.underlying3 (hval 1 3 v1 rfl rfl) h1
  obtain ⟨a2, rfl, rfl, rfl, w2⟩ := open_int Try.underlying3 (hval 2 3 v2 rfl rfl) h2
  clear hA0 hval0
  refine (walk_ClientTurns W A0 len0 cap0 z0 w0 s0 a1 w1 a2 w2).mono fun e W' ⟨he, bel⟩ => ?_
  subst he
  exact ⟨_, rfl, _, _, _, [], _, [], hW', trodAll_mk1 (shut_bool Try.underlying4 _), (trodAll_cons_mk (Below.trod laidOut (by kernel_rfl) (of_decide_eq_true (by kernel_rfl)) k0 bel lt0) (trodAll_cons_mk (Below.trod laidOut (by kernel_rfl) (of_decide_eq_true (by kernel_rfl)) k1 bel lt1) (trodAll_cons_mk (Below.trod laidOut (by kernel_rfl) (of_decide_eq_true (by kernel_rfl)) k2 bel lt2) trodAll_mk0))), rfl, bel.frame _, fun h => by cases h⟩
set_option maxRecDepth 100000 in
theorem lifted (os : Os) (started : os.Started) (H : Type) (enc : TypeId × Value → H) :
    ReturnsInHanded {} Try.checked os 4 .any (Rows.clientTurnsSpec.pre6 enc Try.prog Try.f4 Rows.clientTurnsRow.domain false) (Rows.clientTurnsSpec.post enc Try.prog Try.f4 false true false false) := by
  refine returnsInHanded_of_change_sized (C := Try.checked) own started (by kernel_rfl) Try.func4
    (ChangeSpec.witness6 (enc := enc) (C := Try.checked) false ⟨#[], #[.slice none 0 0, .int .i64 0, .int .i64 0], []⟩ 8 (by kernel_rfl) (by kernel_rfl) (by kernel_rfl) (by kernel_rfl)) ?_
  intro W base args ds gs before hval hW _ hsz _
  exact contract H enc W base args ds gs before hval hW hsz
theorem over : Rows.clientTurnsRow.holds Try.pinned (OpenSpec.ofChange Rows.clientTurnsSpec) :=
  OpenClaim.holds_of_wide 4 Try.f4 rfl rfl rfl rfl rfl rfl rfl ⟨rfl, rfl, rfl, rfl, rfl⟩ rfl rfl rfl rfl rfl (by kernel_rfl) Try.func4 (by kernel_rfl)
    (of_decide_eq_true (by kernel_rfl)) (by unfold Func.isWrapper; first | (rw [if_pos (by decide +kernel)]; kernel_rfl) | (rw [if_neg (by decide +kernel)]; exact ⟨rfl, rfl⟩))
    (fun os started H enc _ => lifted os started H enc)
/-- THE STATEMENT. -/
theorem proved : Rows.ClientTurnsSaid := over
end clientTurns
end Go.Proofs.Ytmamdnikjfmenaa
