/-
  THE PROGRAM'S READER: lists of numbers.
-/
import Derived.Test.YthgiafjiemiifaaPaR4
namespace Go.Proofs.Ythgiafjiemiifaa
open Go.RowKit OctMath
set_option linter.unusedVariables false
theorem rNum_le {bs : List Nat} (hb : Byt bs) {p q x : Nat} (h : rNum bs p = some (x, q)) : q ≤ bs.length := by
  unfold rNum at h
  obtain ⟨-, h1, h2⟩ := rdN_lt bs p hb
  split at h
  · simp only [Option.some.injEq, Prod.mk.injEq] at h
    rw [← h.2]; omega
  · cases h
theorem rInt_rng {bs : List Nat} (hb : Byt bs) {p q : Nat} {x : Int} (h : rInt bs p = some (x, q)) : -9223372036854775808 ≤ x ∧ x ≤ 9223372036854775807 := by
  unfold rInt rNum at h
  obtain ⟨h1, -, -⟩ := rdN_lt bs p hb
  split at h
  · simp only [Option.map_some, Option.some.injEq, Prod.mk.injEq] at h
    rw [← h.1]; exact unz_rng h1
  · cases h
set_option maxRecDepth 100000 in
set_option maxHeartbeats 2000000 in
theorem pg_ints (g : Nat) (A : Option Addr) (n cap : Nat) (bs : List Nat) (p : Nat) (w : World) (hP : Hid (PG g A n cap bs p w)) :
    Calls Try.prog 66 #[.pointer (some ⟨g, 0, none⟩), .func (.func 57) #[.pointer (some ⟨g, 0, none⟩)] #[]] w (RetR (rList bs (rInt bs) p) (vInts w.heap.size) g A n cap bs w) := by
  have HR := Lib.hid (show rList bs (rInt bs) p = (rNum bs).bind (fun n p => if 1048576 < n ∨ bs.length - p < n then none else rTimes (rInt bs) n p) p from rfl)
  have HC := Lib.hid (pg_number g A n cap bs p w hP)
  cases hq : rNum bs p with
  | none =>
    rw [hq] at HC
    rw [Rd.bind_none hq] at HR
    go_enter Try.func66, Try.ntmps66
    go_wp2_with (go_at_call 71; refine HC.out.mono ?_; rintro e w1 ⟨rfl, hk⟩; have HK := Lib.hid hk; clear hk)
    refine ⟨rfl, ?_⟩
    rw [HR.out]
    exact RetR.none_ HK.out
  | some x =>
    obtain ⟨m, p0⟩ := x
    rw [hq] at HC
    rw [Rd.bind_some hq] at HR
    have hlen := hP.out.len
    have hn9 := hP.out.reach
    rw [hlen] at HR
    by_cases hm : 1048576 < m
    · rw [if_pos (.inl hm)] at HR
      have d1 : decide ((m : Int) > 1048576) = true := decide_eq_true (by omega)
      have d2 : decide (1048576 < m) = true := decide_eq_true hm
      clear hlen hn9 hm
      go_enter Try.func66, Try.ntmps66
      go_wp2_with (go_at_call 71; refine HC.out.mono ?_; rintro e w1 ⟨v, rfl, ⟨rfl, hx⟩, hp1, hk⟩; have HP1 := Lib.hid hp1; have HK := Lib.hid hk; have c0 := hp1.blk.cell 0; have c1 := hp1.blk.cell 1; clear hp1 hk)
      go_region
      go_wp2
      refine ⟨rfl, ?_⟩
      rw [HR.out]
      exact RetR.none_ (HK.out.trans keep_drew)
    · have d1 : decide ((m : Int) > 1048576) = false := decide_eq_false (by omega)
      have d2 : decide (1048576 < m) = false := decide_eq_false hm
      have hm1 : m ≤ 1048576 := by omega
      clear hm
      have hp0 := rNum_le hP.out.byt hq
      rw [hlen] at hp0
      obtain ⟨d, ed⟩ : ∃ d, n - p0 = d := ⟨_, rfl⟩
      have e1 : IntKind.i64.wrap ((n : Int) - (p0 : Int)) = (d : Int) := by rw [IntKind.wrap_i64]; omega
      have e2 : IntKind.u64.wrap (d : Int) = (d : Int) := by rw [IntKind.wrap_u64]; omega
      have e3 : IntKind.u64.wrap ((n : Int) - (p0 : Int)) = (d : Int) := by rw [IntKind.wrap_u64]; omega
      rw [ed] at HR
      have hdn : d ≤ n := by omega
      clear ed hp0 hlen hn9
      by_cases hm2 : d < m
      · rw [if_pos (.inr hm2)] at HR
        have d3 : decide ((m : Int) > (d : Int)) = true := decide_eq_true (by omega)
        have d4 : decide (d < m) = true := decide_eq_true hm2
        clear hm1 hm2 hdn
        go_enter Try.func66, Try.ntmps66
        go_wp2_with (go_at_call 71; refine HC.out.mono ?_; rintro e w1 ⟨v, rfl, ⟨rfl, hx⟩, hp1, hk⟩; have HP1 := Lib.hid hp1; have HK := Lib.hid hk; have c0 := hp1.blk.cell 0; have c1 := hp1.blk.cell 1; clear hp1 hk)
        go_region
        go_wp2
        refine ⟨rfl, ?_⟩
        rw [HR.out]
        exact RetR.none_ (HK.out.trans keep_drew)
      · rw [if_neg (by omega)] at HR
        have d3 : decide ((m : Int) > (d : Int)) = false := decide_eq_false (by omega)
        have d4 : decide (d < m) = false := decide_eq_false hm2
        clear hdn hm2
        go_enter Try.func66, Try.ntmps66
        go_wp2_with (go_at_call 71; refine HC.out.mono ?_; rintro e w1 ⟨v, rfl, ⟨rfl, hx⟩, hp1, hk⟩; have HP1 := Lib.hid hp1; have HK := Lib.hid hk; have c0 := hp1.blk.cell 0; have c1 := hp1.blk.cell 1; clear hp1 hk)
        go_region
        clear c0 c1 e1 e2 e3 d3 d4
        go_wp2
        obtain ⟨w2, ew2⟩ : ∃ w2, w1.drew = w2 := ⟨_, rfl⟩
        have hp2 := HP1.out.drew
        have hk2 : Keep (Not g) w w1.drew := HK.out.trans keep_drew
        rw [ew2] at hp2 hk2 ⊢
        have HP2 := Lib.hid hp2
        have HK2 := Lib.hid hk2
        clear ew2 HP1 HK hp2 hk2 HC
        have HB := Lib.hid hP.out.byt
        have hg2 := Lib.hid HP2.out.blk.lt
        have hst0 := Lib.hid (LiR.start 3 1 HP2.out)
        clear hP
        go_loopw [6, 29] (fun vo vi wr => ∃ (k q : Nat) (xs : List Int), k ≤ m ∧ vi = .int .u64 k ∧ Hid (rTimes (rInt bs) k p0 = some (xs, q)) ∧ Hid (∀ x ∈ xs, -9223372036854775808 ≤ x ∧ x ≤ 9223372036854775807) ∧ Hid (LiR g A n cap bs w2 3 1 vo k (xs.map iv) q wr)) (fun _ vi _ => m - (intOf vi).toNat)
        case atStart => exact ⟨0, p0, [], by omega, rfl, Lib.hid rfl, Lib.hid (fun x hx => by cases hx), hst0⟩
        case round =>
          obtain ⟨k, q, xs, hk, rfl, hT, hX, hst⟩ := hrel
          clear hst0
          by_cases hlt : k < m
          · have d3 : decide (k < m) = true := decide_eq_true hlt
            have HI := Lib.hid (pg_int g A n cap bs q wr (Lib.hid hst.out.pg))
            cases hx1 : rInt bs q with
            | none =>
              rw [hx1] at HI
              have HN := Lib.hid (rTimes_none (rTimes_end hT.out hx1) (m := m) (by omega))
              go_wp2_with (go_at_call 57; refine HI.out.mono ?_; rintro e w3 ⟨rfl, hk3⟩; have HK3 := Lib.hid hk3; clear hk3)
              refine ⟨rfl, ?_⟩
              rw [HR.out, HN.out]
              exact RetR.none_ ((HK2.out.trans hst.out.kp).trans HK3.out)
            | some y =>
              obtain ⟨x, q'⟩ := y
              rw [hx1] at HI
              have HT1 := Lib.hid (rTimes_more hT.out hx1)
              have HX1 := Lib.hid (rInt_rng HB.out hx1)
              go_wp2_with (first
                | (go_at_call 57; refine HI.out.mono ?_; rintro e w3 ⟨v, rfl, ⟨rfl, -⟩, hp3, hk3⟩; have hst3 := Lib.hid (hst.out.read hg2.out hp3 hk3); clear hp3 hk3)
                | (at_builtin
                   refine wpl_li rfl _ _ 36 _ 8 Try.underlying36 Try.infoI64 rfl (by decide) (by decide) rfl hst3.out HP2.out (by omega) [.int .i64 x] rfl (by intro u hu; rw [List.mem_singleton.1 hu]; rfl) rfl rfl ?_
                   intro v4 w4 hst4))
              refine ⟨⟨k + 1, q', xs ++ [x], by omega, by go_num, HT1, Lib.hid (fun y hy => ?_), ?_⟩, by simp [intOf]; omega⟩
              · rcases List.mem_append.1 hy with h | h
                · exact hX.out y h
                · rw [List.mem_singleton.1 h]; exact HX1.out
              · rw [List.map_append]; exact hst4
          · obtain rfl : k = m := by omega
            go_wp2
            go_ret
            rw [HR.out, hT.out]
            have hl := rTimes_len hT.out
            subst hl
            obtain ⟨A1, k1, rfl, hl1⟩ := hst.out.list HK2.out.size
            exact RetR.some_ ⟨A1, k1, rfl, hl1, hX.out, hm1⟩ hst.out.pg (HK2.out.trans hst.out.kp)
end Go.Proofs.Ythgiafjiemiifaa
