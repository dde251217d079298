/-
  THE REFERENCE's Mul, Apply.
-/
import Derived.Test.YtebpaafofombaaaMxT4
namespace Go.Proofs.Ytebpaafofombaaa
open Go.RowKit GfMath MxMath
set_option linter.unusedVariables false
def toM (N : Mat) (i j : Nat) : Mat := fun p q => if p < i ∨ (p = i ∧ q < j) then N p q else 0
theorem toM_next {N : Mat} {i j : Nat} (p q : Nat) : toM N i (j + 1) p q = if p = i ∧ q = j then N i j else toM N i j p q := by
  unfold toM
  by_cases e : p = i ∧ q = j
  · obtain ⟨rfl, rfl⟩ := e
    simp
  · rw [if_neg e]
    by_cases h1 : p < i ∨ (p = i ∧ q < j)
    · rw [if_pos h1, if_pos (by rcases h1 with h | h <;> omega)]
    · rw [if_neg h1, if_neg (by omega)]
theorem sum_step (S a b : El) : Value.int .u8 ((S.v ^^^ gmul a.v b.v : Nat) : Int) = .int .u8 ((S + a * b).v : Nat) := rfl
set_option maxRecDepth 100000 in
set_option maxHeartbeats 4000000 in
theorem rmul_ok (A B : Option Addr) (ca cb r m n : Nat) (K M : Mat) (w : World) (HA : Hid (InM w A ca (lmat r m K))) (HB : Hid (InM w B cb (lmat m n M))) (r0 : 0 < r) (r1 : r ≤ 255) (m0 : 0 < m) (m1 : m ≤ 255) (n0 : 0 < n) (n1 : n ≤ 255) :
    Calls Try.prog 27 #[.slice A r ca, .slice B m cb] w (RetMM (lmat r n (mm m K M)) 0 w) := by
  have HC1 := Lib.hid (rcheck_ok A ca m (lmat r m K) w HA (lmat_good K r0 r1 m0 m1))
  have HC2 := Lib.hid (fun w1 (h : Below w.heap.size w w1) => rcheck_ok B cb n (lmat m n M) w1 (Lib.hid (HB.out.later h)) (lmat_good M m0 m1 n0 n1))
  simp only [lmat_len] at HC1 HC2
  have tk1 : True := trivial
  go_enter Try.func27, Try.ntmps27
  go_wp2_with (first
    | (go_at_call 26; have _t := tk1; refine (HC1.out).mono ?_; rintro e w1 ⟨rfl, hb⟩; have HB1 := Lib.hid hb; clear hb tk1 _t)
    | (go_at_call 26; refine (HC2.out _ HB1.out).mono ?_; rintro e w2 ⟨rfl, hb⟩; have HB2 := Lib.hid (bel_trans HB1.out hb); clear hb)
    | (go_at_call 37; refine (zeros_any r n _ r1 n1).mono ?_; rintro e w3 ⟨v, g, rfl, hz⟩; have HZ := Lib.hid hz; have HB3 := Lib.hid (bel_trans HB2.out hz.bel); clear hz))
  have HA3 := Lib.hid (HA.out.later HB3.out)
  have HM3 := Lib.hid (HB.out.later HB3.out)
  obtain ⟨wz, hwz⟩ : ∃ wz, wz = w3 := ⟨_, rfl⟩
  rw [← hwz] at HA3 HM3
  have HIN : Hid (∀ wr, ZSt w2 v r n g (fun _ _ => 0) wz → Below wz.heap.size wz wr → InM wr A ca (lmat r m K) ∧ InM wr B cb (lmat m n M)) := Lib.hid (fun wr _ h => ⟨HA3.out.later h, HM3.out.later h⟩)
  clear HIN hwz HA3 HM3 wz
  have HAA := Lib.hid (HA.out.later HB2.out)
  have HMM := Lib.hid (HB.out.later HB2.out)
  go_loopw [13, 14, 15, 16] (fun vi _ _ _ wr => ∃ i : Nat, i ≤ r ∧ vi = .int .i64 i ∧ Hid (ZSt w2 v r n g (toM (mm m K M) i 0) wr)) (fun vi _ _ _ _ => r - (intOf vi).toNat)
  case atStart => exact ⟨0, by omega, rfl, Lib.hid (HZ.out.congr fun i j _ _ => by simp [toM])⟩
  case round =>
    obtain ⟨i, hi, rfl, hst⟩ := hrel
    clear HZ
    by_cases hlt : i < r
    · go_wp2
      go_loopw [14, 15, 16] (fun vj _ _ wr => ∃ j : Nat, j ≤ n ∧ vj = .int .i64 j ∧ Hid (ZSt w2 v r n g (toM (mm m K M) i j) wr)) (fun vj _ _ _ => n - (intOf vj).toNat)
      case atStart => exact ⟨0, by omega, rfl, hst⟩
      case round =>
        obtain ⟨j, hj, rfl, hs2⟩ := hrel
        clear hst
        by_cases hjl : j < n
        · obtain ⟨ad, D, c', rfl, hc1, _, _, hrow⟩ := (HAA.out.later hs2.out.bel).mrow hlt
          have HRow := Lib.hid hrow
          have HBr := Lib.hid (HMM.out.later hs2.out.bel)
          clear hrow
          go_wp2
          obtain ⟨wo, hwo⟩ : ∃ wo : World, wo = wr := ⟨_, rfl⟩
          rw [← hwo] at hs2 hc1 HRow HBr ⊢
          clear hwo
          go_loopw [15, 16] (fun vx vk w' => ∃ q d : Nat, q ≤ m ∧ vk = .int .i64 q ∧ vx = .int .u8 (fsum q (fun t => K i t * M t j)).v ∧ w' = wo.drewN d) (fun _ vk _ => m - (intOf vk).toNat)
          case atStart => exact ⟨0, 0, by omega, rfl, rfl, rfl⟩
          case round =>
            obtain ⟨q, d, hq, rfl, rfl, rfl⟩ := hrel
            by_cases hql : q < m
            · obtain ⟨bd, D2, t2, rfl, hc2, _, _, hrow2⟩ := HBr.out.mrow hql
              obtain ⟨a1, rfl, _, hd1⟩ := HRow.out.elem hql
              obtain ⟨a2, rfl, _, hd2⟩ := hrow2.elem hjl
              clear hrow2
              obtain ⟨S, hS⟩ : ∃ S, fsum q (fun t => K i t * M t j) = S := ⟨_, rfl⟩
              obtain ⟨y1, hy1⟩ : ∃ y, K i q = y := ⟨_, rfl⟩
              obtain ⟨y2, hy2⟩ : ∃ y, M q j = y := ⟨_, rfl⟩
              have HF : Hid (fsum (q + 1) (fun t => K i t * M t j) = S + y1 * y2) := Lib.hid (by rw [fsum, hS, hy1, hy2])
              rw [hy1] at hd1
              rw [hy2] at hd2
              rw [hS]
              clear hS hy1 hy2
              have l1 := y1.lt
              have l2 := y2.lt
              have x8 := xor8 S.v (gmul y1.v y2.v) S.lt (gmul_lt y1.lt)
              go_wp2
              go_quiet ((go_at_call 41; exact quiet_add_left (rmul_any _ _ l1 l2 _)))
              go_wp2
              exact ⟨⟨q + 1, _, by omega, by go_num, by rw [HF.out]; exact sum_step S y1 y2, by first | rfl | exact World.drewN_drewN ..⟩, by simp [intOf]; omega⟩
            · obtain rfl : m = q := by omega
              obtain ⟨go, c, rfl, hk1, hk2, hcell⟩ := hs2.out.outer r0
              have o1 := hcell i hlt
              obtain ⟨i1, i2⟩ := hs2.out.inner hlt hjl
              clear hcell
              obtain ⟨X, hX⟩ : ∃ X, fsum m (fun t => K i t * M t j) = X := ⟨_, rfl⟩
              have HX : Hid (mm m K M i j = X) := Lib.hid hX
              rw [hX]
              clear hX
              have HN := Lib.hid ((hs2.out.drewN d).set_ (K := toM (mm m K M) i (j + 1)) hlt hjl X.lt (fun p q hp hq => by
                rw [toM_next]
                by_cases e : p = i ∧ q = j
                · rw [if_pos e, if_pos e, HX.out]; exact El.ext' (el_v X.lt).symm
                · rw [if_neg e, if_neg e]))
              go_wp2
              exact ⟨⟨j + 1, by omega, by go_num, HN⟩, by simp [intOf]; omega⟩
        · obtain rfl : n = j := by omega
          have HN := Lib.hid (hs2.out.congr (K := toM (mm m K M) (i + 1) 0) (fun p q hp hq => by
            unfold toM
            by_cases h1 : p < i ∨ (p = i ∧ q < n)
            · rw [if_pos h1, if_pos (by omega)]
            · rw [if_neg h1, if_neg (by omega)]))
          go_wp2
          exact ⟨⟨i + 1, by omega, by go_num, HN⟩, by simp [intOf]; omega⟩
    · obtain rfl : r = i := by omega
      have hE := (hst.out.congr (K := mm m K M) fun i j hi _ => by simp [toM, hi]).toM (by unfold maxLen; omega)
      have HE := Lib.hid hE
      clear hE
      go_wp2
      go_ret2
      exact ⟨_, rfl, ⟨HE.out.own.base_ HB2.out.size, bel_trans HB2.out HE.out.bel⟩⟩
set_option maxRecDepth 100000 in
set_option maxHeartbeats 4000000 in
theorem rapply_ok (A B : Option Addr) (ca cb r n : Nat) (M : Mat) (f : Nat → El) (w : World) (HA : Hid (InM w A ca (lmat r n M))) (HB : Hid (Reads w w.heap.size 1 B n ((lrow n f).map bv))) (r0 : 0 < r) (r1 : r ≤ 255) (n0 : 0 < n) (n1 : n ≤ 255) :
    Calls Try.prog 30 #[.slice A r ca, .slice B n cb] w (RetRowE r (fun i => fsum n (fun j => M i j * f j)) 0 w) := by
  have HC1 := Lib.hid (rcheck_ok A ca n (lmat r n M) w HA (lmat_good M r0 r1 n0 n1))
  simp only [lmat_len] at HC1
  go_enter Try.func30, Try.ntmps30
  go_wp2_with (go_at_call 26; refine (HC1.out).mono ?_; rintro e w1 ⟨rfl, hb⟩; have HB1 := Lib.hid hb; clear hb)
  have HST : Hid (w1.ownsRow w.heap.size 5 1 (.slice none 0 0) 0 ((lrow 0 (fun i => fsum n (fun j => M i j * f j))).map bv) ∧ Below w.heap.size w w1) := Lib.hid ⟨⟨rfl, .inl ⟨rfl, rfl⟩⟩, HB1.out⟩
  go_loopw [9, 10, 11, 12] (fun vo vi _ _ wr => ∃ k : Nat, k ≤ r ∧ vi = .int .i64 k ∧ Hid (wr.ownsRow w.heap.size 5 1 vo k ((lrow k (fun i => fsum n (fun j => M i j * f j))).map bv) ∧ Below w.heap.size w wr)) (fun _ vi _ _ _ => r - (intOf vi).toNat)
  case atStart => exact ⟨0, by omega, rfl, HST⟩
  case round =>
    obtain ⟨k, hk, rfl, hst⟩ := hrel
    clear HST
    by_cases hlt : k < r
    · obtain ⟨ad, D, c', rfl, hc1, _, _, hrow⟩ := (HA.out.later hst.out.2).mrow hlt
      have HRow := Lib.hid hrow
      have HBr := Lib.hid (HB.out.later hst.out.2)
      clear hrow
      go_wp2
      obtain ⟨wo, hwo⟩ : ∃ wo : World, wo = wr := ⟨_, rfl⟩
      rw [← hwo] at hst hc1 HRow HBr ⊢
      clear hwo
      go_loopw [11, 12] (fun vx vj w' => ∃ q d : Nat, q ≤ n ∧ vj = .int .i64 q ∧ vx = .int .u8 (fsum q (fun j => M k j * f j)).v ∧ w' = wo.drewN d) (fun _ vj _ => n - (intOf vj).toNat)
      case atStart => exact ⟨0, 0, by omega, rfl, rfl, rfl⟩
      case round =>
        obtain ⟨q, d, hq, rfl, rfl, rfl⟩ := hrel
        by_cases hql : q < n
        · obtain ⟨a1, rfl, _, hd1⟩ := HRow.out.elem hql
          obtain ⟨a2, rfl, _, hd2⟩ := HBr.out.elem hql
          obtain ⟨S, hS⟩ : ∃ S, fsum q (fun j => M k j * f j) = S := ⟨_, rfl⟩
          obtain ⟨y1, hy1⟩ : ∃ y, M k q = y := ⟨_, rfl⟩
          obtain ⟨y2, hy2⟩ : ∃ y, f q = y := ⟨_, rfl⟩
          have HF : Hid (fsum (q + 1) (fun j => M k j * f j) = S + y1 * y2) := Lib.hid (by rw [fsum, hS, hy1, hy2])
          rw [hy1] at hd1
          rw [hy2] at hd2
          rw [hS]
          clear hS hy1 hy2
          have l1 := y1.lt
          have l2 := y2.lt
          have x8 := xor8 S.v (gmul y1.v y2.v) S.lt (gmul_lt y1.lt)
          go_wp2
          go_quiet ((go_at_call 41; exact quiet_add_left (rmul_any _ _ l1 l2 _)))
          go_wp2
          exact ⟨⟨q + 1, _, by omega, by go_num, by rw [HF.out]; exact sum_step S y1 y2, by first | rfl | exact World.drewN_drewN ..⟩, by simp [intOf]; omega⟩
        · obtain rfl : n = q := by omega
          obtain ⟨X, hX⟩ : ∃ X, fsum n (fun j => M k j * f j) = X := ⟨_, rfl⟩
          have HX := Lib.hid hX
          rw [hX]
          clear hX
          go_wp2_with (at_builtin
                       refine wpl_append rfl (.tmp 50) (.tmp 52) _ rfl w w.heap.size 5 _ 1 1 Try.underlying22 Try.info5 rfl (by decide) _ k _ rfl (hst.out.1.alloc _) (wo.heap.size + 1) (some ⟨wo.heap.size, 0, none⟩) 1 1 [bv X.v] rfl ?rd (bv_one [X.v]) ?byt (by decide) ?bel ?bas ?_
                       case rd => exact Reads.lit1 (wo.drewN d) 5 (bv X.v)
                       case byt => omega
                       case bel => exact (bel_drewN hst.out.2 d).alloc hst.out.2.size _
                       case bas => have := hst.out.2.size; simp; omega
                       intro v2 w2 hh)
          refine ⟨⟨k + 1, by omega, by go_num, Lib.hid ⟨?_, hh.out.2.1⟩⟩, by simp [intOf]; omega⟩
          have h := hh.out.1
          rw [lrow_snoc, List.map_append, HX.out]
          exact h
    · obtain rfl : r = k := by omega
      obtain ⟨V, vc, hv, h1, h2⟩ := own_slice hst.out.1
      subst hv
      go_wp2
      go_ret2
      exact ⟨V, vc, rfl, h1, h2, hst.out.1, hst.out.2⟩
end Go.Proofs.Ytebpaafofombaaa
