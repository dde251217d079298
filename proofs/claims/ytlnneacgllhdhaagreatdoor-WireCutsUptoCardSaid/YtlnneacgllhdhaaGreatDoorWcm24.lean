/-
  WireCuts: the law's walk. (printed by gen_wircuts.py); MESSAGES THAT COME IN, with the second form's bound. (printed by gen_wiri1.py). (joined out of WirCu1, WirI1 by shake.py)
-/
import Derived.Deep.Slices
import Derived.Deep.Fields
import Derived.ChangeSame
import Derived.Lib.SmallJoins
import Derived.Test.YtlnneacgllhdhaaGreatDoorWcm06
import Derived.Test.YtlnneacgllhdhaaGreatDoorWcm23
import Derived.Test.YtlnneacgllhdhaaGreatDoorWcm20
import Derived.Test.YtlnneacgllhdhaaGreatDoorWcm03
section
namespace Go.Proofs.YtlnneacgllhdhaaGreatDoor
open Go.RowKit OctMath
set_option linter.unusedVariables false
set_option linter.unusedSimpArgs false
theorem Tryz.infoInt8 : (Tryz.prog.info? 3).map (fun i => (i.zero, i.size, i.bytes)) = some (some (.int .i64 0), 1, 8) := by kernel_rfl
/-- Where each frame ends. -/
def endsL (bs : List (List Nat)) : List Nat := (List.range bs.length).map fun j => (frs (bs.take (j + 1))).length
def nv (n : Nat) : Value := .int .i64 (n : Int)
theorem endsL_get (bs : List (List Nat)) {j : Nat} (hj : j < bs.length) : (endsL bs)[j]? = some (frs (bs.take (j + 1))).length := by
  unfold endsL
  rw [List.getElem?_map, List.getElem?_range hj]
  rfl
theorem endsL_snoc (bs : List (List Nat)) (b : List Nat) : endsL (bs ++ [b]) = endsL bs ++ [(frs (bs ++ [b])).length] := by
  unfold endsL
  rw [List.length_append, List.length_singleton, List.range_succ, List.map_append, List.map_singleton]
  congr 1
  · refine List.map_congr_left fun j hj => ?_
    have := List.mem_range.1 hj
    rw [List.take_append_of_le_length (by omega)]
  · rw [List.take_of_length_le (by simp)]
theorem frs_le (bs : List (List Nat)) (h : ∀ b ∈ bs, b.length ≤ 1048576) : (frs bs).length ≤ bs.length * 1048588 := by
  induction bs with
  | nil => simp [frs]
  | cons b l ih =>
    have h1 := ih fun x hx => h x (List.mem_cons_of_mem _ hx)
    have h2 := h b List.mem_cons_self
    rw [frs_cons, List.length_append, fr_len, List.length_cons, Nat.succ_mul]
    omega
theorem frs_byt {bs : List (List Nat)} (h : ∀ b ∈ bs, Byt b ∧ b.length ≤ 1048576) : Byt (frs bs) := fun x hx => by
  obtain ⟨b, hb, hx⟩ := List.mem_flatMap.1 hx
  exact fr_byt (h b hb).1 (by have := (h b hb).2; omega) x hx
theorem own_two {w w' : World} {base base' size size' n m : Nat} {t t' : TypeId} {v v' : Value} {xs ys : List Value} (h : w.ownsRow base t size v n xs) (h' : w.ownsRow base' t' size' v' m ys) (hne : t ≠ t') (hg : w.grownBy w' v'.ownBlock) : w'.ownsRow base t size v n xs := by
  refine h.kept hg ?_
  cases e : v'.ownBlock with
  | none =>
    cases e2 : v.ownBlock with
    | none => exact .inl rfl
    | some k => right; simp
  | some g => exact .inr (rows_apart h h' hne e)
/-- Frames that are put one behind the other, and where each ends. -/
structure CSt (W : World) (vs ve : Value) (bs : List (List Nat)) (wr : World) : Prop where
  s : wr.ownsRow W.heap.size 5 1 vs (frs bs).length ((frs bs).map bv)
  e : wr.ownsRow W.heap.size 3 1 ve bs.length ((endsL bs).map nv)
  bel : Below W.heap.size W wr
theorem CSt.nil (W : World) : CSt W (.slice none 0 0) (.slice none 0 0) [] W := ⟨⟨rfl, .inl ⟨rfl, rfl⟩⟩, ⟨rfl, .inl ⟨rfl, rfl⟩⟩, Below.refl _ _⟩
theorem CSt.below {W wr w' : World} {vs ve : Value} {bs : List (List Nat)} (h : CSt W vs ve bs wr) (hb : Below wr.heap.size wr w') : CSt W vs ve bs w' := ⟨own_below h.s hb, own_below h.e hb, h.bel.trans (hb.mono h.bel.size)⟩
/-- The loops' rows that came in. -/
theorem InM.row' {w : World} {A : Option Addr} {cap : Nat} {ls : List (List Nat)} (h : InM w A cap ls) {i : Nat} (hi : i < ls.length) : ∃ ad B c, A = some ad ∧ w.cell? (ad.add i) = some (.slice B ls[i].length c) ∧ RdB w B ls[i].length c ls[i] := by
  obtain ⟨ad, B, c, e, hc, h1, h2, h3, h4⟩ := h.row hi
  have e2 : ls.getD i [] = ls[i] := by rw [List.getD_eq_getElem?_getD, List.getElem?_eq_getElem hi]; rfl
  rw [e2] at hc h1 h3 h4
  exact ⟨ad, B, c, e, hc, h3, h4, h1, h2⟩
theorem frm_own {xs : List Nat} {l : Nat} {w w' : World} {e : Ending} (hl : ¬ 4194304 < l) (h : RetFrm xs l w e w') :
    Below w.heap.size w w' ∧ ∃ A k, e = .returned (.tuple #[.slice A (l + 12) k, .int .i64 0]) ∧ w'.ownsRow w.heap.size 5 1 (.slice A (l + 12) k) (l + 12) ((fr xs).map bv) := by
  obtain ⟨hb, h⟩ := h
  rw [if_neg hl] at h
  obtain ⟨v, he, ho⟩ := h
  obtain ⟨A, k, rfl, h1, h2⟩ := own_slice ho
  exact ⟨hb, A, k, he, ho⟩
theorem all_in0 {xs : List Nat} {w w' : World} {e : Ending} {ks : List (List Nat)} {q : Nat} (hK : AllR xs ks q) (h : RetAll xs w e w') :
    Below w.heap.size w w' ∧ ∃ A k, e = .returned (.tuple #[.slice A ks.length k, .int .i64 (q : Int)]) ∧ InM w' A k ks := by
  obtain ⟨v, ls, p, he, hA, hm⟩ := h
  obtain ⟨rfl, rfl⟩ := hA.uniq hK
  obtain ⟨A, k, rfl, hi⟩ := hm.own.slice
  exact ⟨hm.bel, A, k, he, hi⟩
/-- How many frames a cut stream has. -/
theorem cut_count (bs : List (List Nat)) (cut : Nat) (h : cut ≤ (frs bs).length) : ∃ n, n ≤ bs.length ∧ (∀ j, j < n → (frs (bs.take (j + 1))).length ≤ cut) ∧ (n = bs.length ∨ ∃ h : n < bs.length, cut < (frs (bs.take (n + 1))).length) ∧ (frs (bs.take n)).length ≤ cut := by
  suffices hs : ∀ n, n ≤ bs.length → (∀ j, j < n → (frs (bs.take (j + 1))).length ≤ cut) ∨ ∃ m, m < bs.length ∧ (∀ j, j < m → (frs (bs.take (j + 1))).length ≤ cut) ∧ cut < (frs (bs.take (m + 1))).length by
    have last : ∀ n, (∀ j, j < n → (frs (bs.take (j + 1))).length ≤ cut) → (frs (bs.take n)).length ≤ cut := fun n hn => by
      cases n with
      | zero => simp [frs]
      | succ n => exact hn n (by omega)
    rcases hs bs.length (Nat.le_refl _) with h1 | ⟨m, h1, h2, h3⟩
    · exact ⟨bs.length, Nat.le_refl _, h1, .inl rfl, last _ h1⟩
    · exact ⟨m, by omega, h2, .inr ⟨h1, h3⟩, last _ h2⟩
  intro n hn
  induction n with
  | zero => exact .inl fun j h => absurd h (by omega)
  | succ n ih =>
    rcases ih (by omega) with h1 | h1
    · by_cases h2 : (frs (bs.take (n + 1))).length ≤ cut
      · refine .inl fun j hj => ?_
        rcases Nat.lt_or_eq_of_le (Nat.lt_succ_iff.1 hj) with h3 | h3
        · exact h1 j h3
        · rw [h3]; exact h2
      · exact .inr ⟨n, by omega, h1, by omega⟩
    · exact .inr h1
set_option maxRecDepth 100000 in
set_option maxHeartbeats 16000000 in
theorem cuts_any (A : Option Addr) (ca N : Nat) (ls : List (List Nat)) (a : Int) (W : World) (hA : Hid (InM W A ca ls)) (hN : ls.length = N) (hN1 : N ≤ 1048576) (hb1 : Hid (∀ b ∈ ls, Byt b ∧ b.length ≤ 1048576)) (hg : Hid (GE W)) (ha : -9223372036854775808 ≤ a ∧ a ≤ 9223372036854775807) :
    Calls Tryz.prog 5 #[.slice A N ca, .int .i64 a] W fun e w' => e = .returned (.bool true) ∧ Below W.heap.size W w' := by
  have HN := Lib.hid hN
  have hcap := hA.out.2.1
  unfold maxLen at hcap
  have hT : (frs ls).length ≤ 1099524210688 := by
    have h1 := frs_le ls (fun b hb => (hb1.out b hb).2)
    have h2 : ls.length * 1048588 ≤ 1048576 * 1048588 := Nat.mul_le_mul_right _ (by omega)
    omega
  have HT := Lib.hid hT
  have hcutex := fun (k : Nat) (h : k ≤ (frs ls).length) => cut_count ls k h
  have HCX := Lib.hid hcutex
  clear hN hT hcutex
  go_enter Tryz.func5, Tryz.ntmps5
  go_wp2_with fail
  go_loopw [5, 6, 7, 8, 9] (fun vs ve vi _ _ wr => ∃ i : Nat, i ≤ N ∧ vi = .int .i64 i ∧ Hid (CSt W vs ve (ls.take i) wr)) (fun _ _ vi _ _ _ => N - (intOf vi).toNat)
  case atStart => exact ⟨0, by omega, rfl, Lib.hid (CSt.nil W)⟩
  case round =>
    obtain ⟨i, hi, rfl, hst⟩ := hrel
    obtain ⟨AS, cs, rfl, hs1, hs2⟩ := own_slice hst.out.s
    obtain ⟨AE, ce, rfl, he1, he2⟩ := own_slice hst.out.e
    have hIn := Lib.hid (hA.out.later hst.out.bel)
    have hGw := Lib.hid (hg.out.later hst.out.bel)
    by_cases hlt : i < N
    · as_aux_lemma =>
        have hil : i < ls.length := by rw [HN.out]; exact hlt
        obtain ⟨ad, B, c, rfl, hc, hB⟩ := hIn.out.row' hil
        have hbi := hb1.out _ (List.getElem_mem hil)
        have htk : ls.take (i + 1) = ls.take i ++ [ls[i]] := List.take_succ_eq_append_getElem hil
        have hlen : (ls.take i).length = i := by rw [List.length_take]; omega
        have hfl : (frs (ls.take i)).length ≤ 1099524210688 := by
          have h1 := frs_le (ls.take i) (fun b hb => (hb1.out b (List.mem_of_mem_take hb)).2)
          rw [hlen] at h1
          have h2 : i * 1048588 ≤ 1048576 * 1048588 := Nat.mul_le_mul_right _ (by omega)
          omega
        obtain ⟨b, eb⟩ : ∃ b, ls[i] = b := ⟨_, rfl⟩
        obtain ⟨bs, ebs⟩ : ∃ bs, ls.take i = bs := ⟨_, rfl⟩
        rw [eb] at hc hB hbi htk
        rw [ebs] at hst hs1 he1 htk hlen hfl ⊢
        have HTK := Lib.hid htk
        have HSN := Lib.hid (endsL_snoc bs b)
        have HFA := Lib.hid (show frs (bs ++ [b]) = frs bs ++ fr b from by rw [frs_app, frs_one])
        obtain ⟨m, em⟩ : ∃ m, b.length = m := ⟨_, rfl⟩
        rw [em] at hc hB hbi
        have HFM := Lib.hid (show (fr b).length = m + 12 from by rw [fr_len, em])
        obtain ⟨T, eT⟩ : ∃ T, (frs bs).length = T := ⟨_, rfl⟩
        have HFT := Lib.hid eT
        rw [eT] at hs1 hfl ⊢
        rw [hlen] at he1 ⊢
        have HLN := Lib.hid hlen
        have HF := Lib.hid ((Frame_any B m c b wr (Lib.hid hB)).mono fun e w' k => frm_own (by omega) k)
        have HBI := Lib.hid hbi
        have hm1 := hbi.2
        have tk := True.intro
        clear hB hbi htk eb ebs em eT hlen hIn hGw
        obtain ⟨i0, hi0, hz0, hz1, hz2⟩ := info_parts Tryz.infoU8
        obtain ⟨j0, hj0, hy0, hy1, hy2⟩ := info_parts Tryz.infoInt8
        have HI0 := Lib.hid (And.intro hi0 (And.intro hz0 (And.intro hz1 hz2)))
        have HJ0 := Lib.hid (And.intro hj0 (And.intro hy0 (And.intro hy1 hy2)))
        clear hi0 hz0 hz1 hz2 hj0 hy0 hy1 hy2
        go_wp2_with (first
          | (go_at_call 14; refine HF.out.mono ?_; rintro e w1 ⟨hb, A1, k1, rfl, ho⟩
             have S1 := Lib.hid (hst.out.below hb)
             have O1 := Lib.hid ho
             have P1 := Lib.hid (show (Value.slice AS T cs) = .slice AS (frs bs).length cs from by rw [HFT.out])
             clear hb ho)
          | (have _t := tk; at_builtin
             refine wpList_append_any _ rfl (.tmp 39) (.tmp 40) _ rfl W.heap.size 5 i0 (.int .u8 0) 1 1 Tryz.underlying33 HI0.out.1 HI0.out.2.1 HI0.out.2.2.1 HI0.out.2.2.2 rfl (by decide) (.slice AS T cs) T ((frs bs).map bv) rfl (by have := S1.out.s; rw [HFT.out] at this; exact this) w1.heap.size A1 (m + 12) k1 ((fr b).map bv) rfl (Reads.of_own O1.out) (bv_one _) (by unfold maxLen; omega) (by omega) S1.out.bel.size ?_
             intro v2 w2 q1 q2 q3
             have hs0 := S1.out.s
             rw [HFT.out] at hs0
             have E2 := Lib.hid (own_two S1.out.e hs0 (by decide) q2)
             have B2 := Lib.hid (bel_grown_own S1.out.bel S1.out.bel.size hs0 q2)
             obtain ⟨A2, c2, rfl, -, -⟩ := own_slice q1
             have S2 := Lib.hid q1
             clear q1 q2 q3 hs0 tk _t)
          | (at_builtin
             refine wpList_append_any _ rfl (.tmp 42) (.tmp 45) _ rfl W.heap.size 3 j0 (.int .i64 0) 1 8 Tryz.underlying25 HJ0.out.1 HJ0.out.2.1 HJ0.out.2.2.1 HJ0.out.2.2.2 rfl (by decide) (.slice AE i ce) i ((endsL bs).map nv) rfl (by have := E2.out; rw [HLN.out] at this; exact own_below this ((Below.refl _ _).alloc (Nat.le_refl _) _)) (w2.heap.size + 1) (some ⟨w2.heap.size, 0, none⟩) 1 1 [nv (T + (m + 12))] rfl (Reads.lit1 w2 3 _) (by intro y hy; rw [List.mem_singleton.1 hy]; rfl) (by unfold maxLen; omega) (by omega) (by have := B2.out.size; simp; omega) ?_
             intro v3 w3 q1 q2 q3
             have he0 := own_below E2.out ((Below.refl w2.heap.size w2).alloc (Nat.le_refl _) (.cells #[nv (T + (m + 12))] 3))
             rw [HLN.out] at he0
             have hs0 := own_below S2.out ((Below.refl w2.heap.size w2).alloc (Nat.le_refl _) (.cells #[nv (T + (m + 12))] 3))
             have S3 := Lib.hid (own_two hs0 he0 (by decide) q2)
             have B3 := Lib.hid (bel_grown_own (B2.out.alloc B2.out.size (.cells #[nv (T + (m + 12))] 3)) (by have := B2.out.size; simp; omega) he0 q2)
             have E3 := Lib.hid q1
             clear q1 q2 q3 hs0 he0))
        refine ⟨⟨i + 1, by omega, by go_num, Lib.hid ?_⟩, by simp [intOf]; omega⟩
        rw [HTK.out]
        refine ⟨?_, ?_, B3.out⟩
        · rw [HFA.out, List.length_append, HFT.out, HFM.out, List.map_append]
          exact S3.out
        · rw [HSN.out, HFA.out, List.length_append, List.length_append, HFT.out, HFM.out, HLN.out, List.map_append]
          exact E3.out
    · as_aux_lemma =>
        obtain rfl : i = N := by omega
        have htl : ls.take i = ls := List.take_of_length_le (by rw [HN.out]; omega)
        rw [htl] at hst hs1 he1 ⊢
        have hTle := HT.out
        have HCT := HCX.out
        obtain ⟨T, eT⟩ : ∃ T, (frs ls).length = T := ⟨_, rfl⟩
        have HFT := Lib.hid eT
        rw [eT] at hs1 hTle HCT ⊢
        rw [HN.out] at he1 ⊢
        have HCT := Lib.hid HCT
        clear htl eT HT HCX
        by_cases ho : a < 0 ∨ (T : Int) < a
        · by_cases h1 : a < 0
          · have d1 : decide (a < 0) = true := decide_eq_true h1
            clear ho h1 hIn
            go_wp2_with (go_at_call 13; refine (heads_any _ hGw).mono ?_; rintro e w10 ⟨rfl, he⟩; have HE := Lib.hid (hst.out.bel.trans (he.mono hst.out.bel.size)); clear he)
            go_ret
            exact ⟨rfl, HE.out⟩
          · have d1 : decide (a < 0) = false := decide_eq_false h1
            have d2 : decide (a > (T : Int)) = true := decide_eq_true (by omega)
            have d3 : decide ((T : Int) < a) = true := decide_eq_true (by omega)
            clear ho h1 hIn
            go_wp2_with (go_at_call 13; refine (heads_any _ hGw).mono ?_; rintro e w10 ⟨rfl, he⟩; have HE := Lib.hid (hst.out.bel.trans (he.mono hst.out.bel.size)); clear he)
            go_ret
            exact ⟨rfl, HE.out⟩
        · obtain ⟨k, rfl⟩ := Int.eq_ofNat_of_zero_le (show 0 ≤ a by omega)
          have hkT : k ≤ T := by omega
          have d1 : decide ((k : Int) < 0) = false := decide_eq_false (by omega)
          have d2 : decide ((k : Int) > (T : Int)) = false := decide_eq_false (by omega)
          have d3 : decide ((T : Int) < (k : Int)) = false := decide_eq_false (by omega)
          have d4 : decide (T < k) = false := decide_eq_false (by omega)
          obtain ⟨n, n1, n2, n3, n4⟩ := HCT.out k hkT
          have hK : AllR ((frs ls).take k) (ls.take n) (frs (ls.take n)).length := allR_cut (fun b hb => ⟨(hb1.out b hb).1, by have := (hb1.out b hb).2; omega⟩) n1 n4 (by
            rcases n3 with h | ⟨h, h2⟩
            · exact .inl ⟨h, by rw [HFT.out]; exact hkT⟩
            · exact .inr h2)
          have hsl : ∀ W : World, (Instr.sliceAt 33 (.slice AS T cs) none (some (.int .i64 (k : Int))) none).run Tryz.prog W = .ok (.slice AS k cs) W := fun W => by
            obtain ⟨i0, hi0, hz0, hz1, hz2⟩ := info_parts Tryz.infoU8
            exact slice_to Tryz.underlying33 hi0 hz1 AS T cs k (by omega) W
          have hRd : Hid (RdB wr AS k cs ((frs ls).take k)) := Lib.hid (by
            have h1 := Reads.of_own hst.out.s
            rw [HFT.out] at h1
            have h2 := h1.first hkT
            rw [← List.map_take] at h2
            exact ⟨h2, fun x hx => frs_byt hb1.out x (List.mem_of_mem_take hx), by omega, hs2⟩)
          have HAL := Lib.hid ((All_any AS k cs ((frs ls).take k) wr hRd hGw (by omega)).mono fun e w' h => all_in0 hK h)
          have hgl : (ls.take n).length = n := by rw [List.length_take]; omega
          obtain ⟨q, eq⟩ : ∃ q, (frs (ls.take n)).length = q := ⟨_, rfl⟩
          rw [hgl, eq] at HAL
          rw [HN.out] at n1 n3
          have HEQ := Lib.hid eq
          have HGL := Lib.hid hgl
          have HN2 := Lib.hid n2
          have HN3 := Lib.hid n3
          clear ho hK hRd hgl eq n2 n3 n4 HCT
          go_wp2_with (go_at_call 16; refine HAL.out.mono ?_; rintro e w1 ⟨hb, A5, k5, rfl, r1⟩
                       have S1 := Lib.hid (hst.out.below hb)
                       have I1 := Lib.hid (hIn.out.later hb)
                       have G1 := Lib.hid r1
                       clear hb r1 HAL)
          have HEC : Hid (∀ j, j < i → ∃ g, AE = some ⟨g, 0, none⟩ ∧ w1.cell? ⟨g, j, none⟩ = some (.int .i64 ((frs (ls.take (j + 1))).length : Int))) := Lib.hid (fun j hj => by
            obtain ⟨g, c', e1, -, -⟩ := S1.out.e.form (by rw [HN.out]; omega)
            injection e1 with e1 e2 e3
            have h1 := S1.out.e
            rw [HN.out, e1] at h1
            have h2 := h1.cellAt j (by omega)
            rw [List.getElem?_map, endsL_get ls (by have := HN.out; omega)] at h2
            exact ⟨g, e1, h2⟩)
          have h5 := G1.out.2.1
          have h6 := G1.out.1
          rw [HGL.out] at h6
          unfold maxLen at h5
          go_loop [12] (fun vn => ∃ j : Nat, j ≤ n ∧ vn = .int .i64 j) (fun vn => n - (intOf vn).toNat)
          case atStart => exact ⟨0, by omega, rfl⟩
          case round =>
            obtain ⟨j, hj, rfl⟩ := hrel
            by_cases hjn : j < n
            · obtain ⟨g, rfl, hce⟩ := HEC.out j (by omega)
              have hle := HN2.out j hjn
              obtain ⟨t, et⟩ : ∃ t, (frs (ls.take (j + 1))).length = t := ⟨_, rfl⟩
              rw [et] at hce hle
              have c1 : decide ((t : Int) ≤ (k : Int)) = true := decide_eq_true (by omega)
              clear et
              go_wp2_with fail
              exact ⟨⟨j + 1, by omega, by go_num⟩, by simp [intOf]; omega⟩
            · obtain rfl : j = n := by omega
              have hcase : (j = i ∨ ∃ g t, AE = some ⟨g, 0, none⟩ ∧ j < i ∧ w1.cell? ⟨g, j, none⟩ = some (.int .i64 (t : Int)) ∧ (k : Int) < t) := by
                rcases HN3.out with h | ⟨h, h2⟩
                · exact .inl h
                · have hji : j < i := by have := HN.out; omega
                  obtain ⟨g, e1, e2⟩ := HEC.out j hji
                  exact .inr ⟨g, ((frs (ls.take (j + 1))).length : Int), e1, hji, e2, by omega⟩
              have HCC := Lib.hid hcase
              clear hcase
              rcases Nat.eq_zero_or_pos j with hj0 | hj0
              · subst hj0
                rcases HCC.out with h | ⟨g, t, eg, hji, hce, hkt⟩
                · as_aux_lemma =>
                  subst h
                  have z1 : ((0 : Int) != (0 : Int)) = false := rfl
                  obtain rfl : q = 0 := by rw [← HEQ.out]; simp [frs]
                  have h6 : 0 ≤ k5 := Nat.zero_le _
                  go_wp2_with fail
                  go_loopw [13] (fun vi wr2 => vi = .int .i64 0 ∧ wr2 = w1) (fun vi _ => 0)
                  case atStart => exact ⟨rfl, rfl⟩
                  case round =>
                    obtain ⟨rfl, rfl⟩ := hrel
                    go_wp2_with (go_at_call 13; refine (heads_any _ (Lib.hid (hg.out.later S1.out.bel))).mono ?_; rintro e w10 ⟨rfl, he⟩; have HE := Lib.hid (S1.out.bel.trans (he.mono S1.out.bel.size)); clear he)
                    go_ret
                    exact ⟨rfl, HE.out⟩
                · as_aux_lemma =>
                  have c1 : decide (t ≤ (k : Int)) = false := decide_eq_false (by omega)
                  subst eg
                  have z1 : ((0 : Int) != (0 : Int)) = false := rfl
                  obtain rfl : q = 0 := by rw [← HEQ.out]; simp [frs]
                  have h6 : 0 ≤ k5 := Nat.zero_le _
                  go_wp2_with fail
                  go_loopw [13] (fun vi wr2 => vi = .int .i64 0 ∧ wr2 = w1) (fun vi _ => 0)
                  case atStart => exact ⟨rfl, rfl⟩
                  case round =>
                    obtain ⟨rfl, rfl⟩ := hrel
                    go_wp2_with (go_at_call 13; refine (heads_any _ (Lib.hid (hg.out.later S1.out.bel))).mono ?_; rintro e w10 ⟨rfl, he⟩; have HE := Lib.hid (S1.out.bel.trans (he.mono S1.out.bel.size)); clear he)
                    go_ret
                    exact ⟨rfl, HE.out⟩
              · rcases HCC.out with h | ⟨g9, t, eg9, hji, hce9, hkt⟩
                · as_aux_lemma =>
                  subst h
                  have z1 : ((j : Int) != (j : Int)) = false := by simp
                  obtain ⟨g, eg, hce⟩ := HEC.out (j - 1) (by omega)
                  rw [show j - 1 + 1 = j from by omega, HEQ.out] at hce
                  have p1 : decide ((j : Int) > 0) = true := decide_eq_true (by omega)
                  have p2 : decide (0 < (j : Int)) = true := decide_eq_true (by omega)
                  have p3 : decide (0 < j) = true := decide_eq_true (by omega)
                  have p4 : ((j : Int) == 0) = false := by rw [beq_eq_false_iff_ne]; omega
                  have p6 : decide ((j : Int) = 0) = false := decide_eq_false (by omega)
                  have p7 : (j == 0) = false := by rw [beq_eq_false_iff_ne]; omega
                  have p8 : ((q : Int) != (q : Int)) = false := by simp
                  subst eg
                  go_wp2_with fail
                  go_loopw [13] (fun vi wr2 => ∃ p d : Nat, p ≤ j ∧ vi = .int .i64 p ∧ wr2 = w1.drewN d) (fun vi _ => j - (intOf vi).toNat)
                  case atStart => exact ⟨0, 0, by omega, rfl, rfl⟩
                  case round =>
                    obtain ⟨p, d, hp, rfl, rfl⟩ := hrel
                    by_cases hpn : p < j
                    · obtain ⟨bd, D', c', e1, hc2, h3, h4, hr', hy'⟩ := G1.out.row (i := p) (by rw [HGL.out]; exact hpn)
                      obtain ⟨ad, D, c, e2, hc1, h1, h2, hr2, hy⟩ := I1.out.row (i := p) (by rw [HN.out]; omega)
                      have e3 : (ls.take j).getD p [] = ls.getD p [] := by rw [List.getD_eq_getElem?_getD, List.getD_eq_getElem?_getD, List.getElem?_take_of_lt hpn]
                      rw [e3] at hc2 h3 hr' hy'
                      have H := Lib.hid (fun q : Nat => same_any D' D c' c _ _ _ _ (w1.drewN (d + q)) hy' hy hr' hr2)
                      rw [decide_eq_true rfl] at H
                      obtain ⟨y, ey⟩ : ∃ y, ls.getD p [] = y := ⟨_, rfl⟩
                      rw [ey] at H hc1 hc2
                      clear e3 h1 h2 h3 h4 hr2 hr' hy hy' ey
                      subst e1 e2
                      go_wp2
                      go_quiet ((go_at_call 8; exact quiet_add_left (H.out _)))
                      go_wp2
                      exact ⟨⟨p + 1, _, by omega, by go_num, rfl⟩, by simp [intOf]; omega⟩
                    · obtain rfl : p = j := by omega
                      have KB := Lib.hid (bel_drewN S1.out.bel d)
                      go_wp2_with (go_at_call 13; refine (heads_any _ (Lib.hid (hg.out.later KB.out))).mono ?_; rintro e w10 ⟨rfl, he⟩; have HE := Lib.hid (KB.out.trans (he.mono KB.out.size)); clear he)
                      go_ret
                      exact ⟨rfl, HE.out⟩
                · as_aux_lemma =>
                  have c1 : decide (t ≤ (k : Int)) = false := decide_eq_false (by omega)
                  have z1 : ((j : Int) != (j : Int)) = false := by simp
                  obtain ⟨g, eg, hce⟩ := HEC.out (j - 1) (by omega)
                  rw [show j - 1 + 1 = j from by omega, HEQ.out] at hce
                  have p1 : decide ((j : Int) > 0) = true := decide_eq_true (by omega)
                  have p2 : decide (0 < (j : Int)) = true := decide_eq_true (by omega)
                  have p3 : decide (0 < j) = true := decide_eq_true (by omega)
                  have p4 : ((j : Int) == 0) = false := by rw [beq_eq_false_iff_ne]; omega
                  have p6 : decide ((j : Int) = 0) = false := decide_eq_false (by omega)
                  have p7 : (j == 0) = false := by rw [beq_eq_false_iff_ne]; omega
                  have p8 : ((q : Int) != (q : Int)) = false := by simp
                  subst eg9
                  injection eg with eg
                  injection eg with eg
                  subst eg
                  go_wp2_with fail
                  go_loopw [13] (fun vi wr2 => ∃ p d : Nat, p ≤ j ∧ vi = .int .i64 p ∧ wr2 = w1.drewN d) (fun vi _ => j - (intOf vi).toNat)
                  case atStart => exact ⟨0, 0, by omega, rfl, rfl⟩
                  case round =>
                    obtain ⟨p, d, hp, rfl, rfl⟩ := hrel
                    by_cases hpn : p < j
                    · obtain ⟨bd, D', c', e1, hc2, h3, h4, hr', hy'⟩ := G1.out.row (i := p) (by rw [HGL.out]; exact hpn)
                      obtain ⟨ad, D, c, e2, hc1, h1, h2, hr2, hy⟩ := I1.out.row (i := p) (by rw [HN.out]; omega)
                      have e3 : (ls.take j).getD p [] = ls.getD p [] := by rw [List.getD_eq_getElem?_getD, List.getD_eq_getElem?_getD, List.getElem?_take_of_lt hpn]
                      rw [e3] at hc2 h3 hr' hy'
                      have H := Lib.hid (fun q : Nat => same_any D' D c' c _ _ _ _ (w1.drewN (d + q)) hy' hy hr' hr2)
                      rw [decide_eq_true rfl] at H
                      obtain ⟨y, ey⟩ : ∃ y, ls.getD p [] = y := ⟨_, rfl⟩
                      rw [ey] at H hc1 hc2
                      clear e3 h1 h2 h3 h4 hr2 hr' hy hy' ey
                      subst e1 e2
                      go_wp2
                      go_quiet ((go_at_call 8; exact quiet_add_left (H.out _)))
                      go_wp2
                      exact ⟨⟨p + 1, _, by omega, by go_num, rfl⟩, by simp [intOf]; omega⟩
                    · obtain rfl : p = j := by omega
                      have KB := Lib.hid (bel_drewN S1.out.bel d)
                      go_wp2_with (go_at_call 13; refine (heads_any _ (Lib.hid (hg.out.later KB.out))).mono ?_; rintro e w10 ⟨rfl, he⟩; have HE := Lib.hid (KB.out.trans (he.mono KB.out.size)); clear he)
                      go_ret
                      exact ⟨rfl, HE.out⟩
end Go.Proofs.YtlnneacgllhdhaaGreatDoor
end
section
namespace Go.Proofs.YtlnneacgllhdhaaGreatDoor
open Go.RowKit OctMath
open Go.ChangeShapes Go.WideShapes Go.Deep
set_option linter.unusedVariables false
set_option linter.unusedSimpArgs false
section
variable {H : Type} {enc : TypeId × Value → H} {w : World} {base : Nat} {sp : Nat → Bool} {held : Bool}
theorem bulk_pos (d : DataW H) : 1 ≤ Rows.uptoBulk d := by
  cases d with
  | lit l => cases l <;> simp [Rows.uptoBulk]
  | _ => simp [Rows.uptoBulk]
theorem bulk_len : ∀ l : List (DataW H), l.length ≤ Rows.uptoBulkAll l
  | [] => by simp [Rows.uptoBulkAll]
  | d :: l => by have := bulk_len l; have := bulk_pos d; simp only [Rows.uptoBulkAll, List.length_cons]; omega
theorem bulk_mem {d : DataW H} : ∀ {l : List (DataW H)}, d ∈ l → Rows.uptoBulk d ≤ Rows.uptoBulkAll l
  | x :: l, h => by
    simp only [Rows.uptoBulkAll]
    rcases List.mem_cons.1 h with rfl | h
    · omega
    · have := bulk_mem h; omega
/-- Things in a row, each of some cells: all of them. -/
theorem open_rowb {P : Program} {t e : TypeId} {α : Type} {cells : α → List Value} {ok : α → Prop} {size fuel : Nat} {v : Value} {x : DataW H × List MemPlace} (ht : P.underlying t = some (.slice e)) (hC : P.cellsOf e = size) (hs : 0 < size)
    (hone : ∀ n cs y, DataW.trod enc P w base sp held n e cs = some y → Rows.uptoBulk y.1 ≤ 1048576 → ∃ a, cs = cells a ∧ ok a) (hl : ∀ a, (cells a).length = size) (h : DataW.trod enc P w base sp held fuel t [v] = some x) (hsz : Rows.uptoBulk x.1 ≤ 1048576) :
    ∃ A n cap, ∃ l : List α, v = .slice A n cap ∧ Reads w w.heap.size size A n (l.flatMap cells) ∧ l.length = n ∧ (∀ a ∈ l, ok a) ∧ n ≤ cap ∧ cap ≤ maxLen ∧ n ≤ 1048576 := by
  rcases open_slice ht h with ⟨hcs, hx⟩ | ⟨a, len, cap, m, n, D, Pl, hcs, hb, hle, hm, hmm, hx, hi⟩
  · injection hcs with hcs
    exact ⟨none, 0, 0, [], hcs, (by refine ⟨?_, fun h => absurd h (by omega)⟩; simp), rfl, (fun a h => (by cases h)), (by omega), (by unfold maxLen; omega), (by omega)⟩
  · injection hcs with hcs
    have hlm : len ≤ m := by rw [hmm]; split <;> omega
    rw [hx] at hsz
    simp only [Rows.uptoBulk] at hsz
    have hr : len ≤ 1048576 := by
      have h1 := bulk_len ((List.range len).map D)
      simp only [List.length_map, List.length_range] at h1
      omega
    have hD : ∀ i, i < len → Rows.uptoBulk (D i) ≤ 1048576 := fun i hi => Nat.le_trans (bulk_mem (l := (List.range len).map D) (List.mem_map.2 ⟨i, List.mem_range.2 hi, rfl⟩)) (by omega)
    have hcell : ∀ i, i < len → ∃ y : α, ok y ∧ ∀ j, j < size → w.cell? (a.add (i * size + j)) = (cells y)[j]? := by
      intro i hi'
      obtain ⟨cs', hc, ht'⟩ := hi i (by omega)
      obtain ⟨y, rfl, hy⟩ := hone _ _ _ ht' (hD i hi')
      rw [hC] at hc
      obtain ⟨_, hlc, hat⟩ := World.cells?_some hc
      refine ⟨y, hy, fun j hj => ?_⟩
      have := hat j hj
      rw [Go.Deep.add_add] at this
      exact this
    obtain ⟨l, h1, h2⟩ : ∃ l : List α, l.length = len ∧ ∀ i (hi : i < l.length), ok l[i] ∧ ∀ j, j < size → w.cell? (a.add (i * size + j)) = (cells l[i])[j]? := by
      clear hx hi h hmm hle hcs hlm hsz hr hD
      induction len with
      | zero => exact ⟨[], rfl, fun i hi => absurd hi (by simp)⟩
      | succ len ih =>
        obtain ⟨ns, h1, h2⟩ := ih fun i hi => hcell i (by omega)
        obtain ⟨s, hs⟩ := hcell len (by omega)
        refine ⟨ns ++ [s], by simp [h1], fun i hi => ?_⟩
        by_cases hlt : i < ns.length
        · rw [List.getElem_append_left hlt]; exact h2 i hlt
        · obtain rfl : i = len := by simp at hi; omega
          rw [List.getElem_append_right (by omega)]
          simp only [h1, Nat.sub_self, List.getElem_cons_zero]
          exact hs
    have hflat : ∀ (l : List α), (l.flatMap cells).length = l.length * size := by
      intro l
      induction l with
      | nil => simp
      | cons p l ih => rw [List.flatMap_cons, List.length_append, ih, hl, List.length_cons, Nat.succ_mul]; omega
    have hget : ∀ (l : List α) (i : Nat) (hi : i < l.length) (j : Nat), j < size → (l.flatMap cells)[i * size + j]? = (cells l[i])[j]? := by
      intro l
      induction l with
      | nil => intro i hi; simp at hi
      | cons p l ih =>
        intro i hi j hj
        rw [List.flatMap_cons]
        cases i with
        | zero => rw [Nat.zero_mul, Nat.zero_add, List.getElem?_append_left (by rw [hl]; exact hj)]; rfl
        | succ i =>
          rw [List.getElem?_append_right (by rw [hl, Nat.succ_mul]; omega), hl, show (i + 1) * size + j - size = i * size + j by rw [Nat.succ_mul]; omega]
          exact ih i (by simpa using hi) j hj
    refine ⟨some a, len, cap, l, hcs, ⟨by rw [hflat, h1], fun hn => ⟨a, rfl, ?_, fun j u hu => ?_⟩⟩, h1, fun y hy => ?_, hle, hm, hr⟩
    · have h3 := (h2 0 (by omega)).2 0 hs
      have h4 : (cells (l[0]'(by omega)))[0]? = some ((cells (l[0]'(by omega)))[0]'(by rw [hl]; exact hs)) := List.getElem?_eq_getElem _
      rw [h4] at h3
      have := World.block_lt_of_cell? _ _ h3
      rwa [block_of_add] at this
    · have hj : j < l.length * size := by
        have h3 := (List.getElem?_eq_some_iff.1 hu).1
        rwa [hflat] at h3
      have hd : j / size < l.length := Nat.div_lt_of_lt_mul (by rw [Nat.mul_comm]; exact hj)
      have hm' : j % size < size := Nat.mod_lt _ hs
      have ej : j / size * size + j % size = j := by rw [Nat.mul_comm]; exact Nat.div_add_mod j size
      have h3 := (h2 (j / size) hd).2 (j % size) hm'
      have h4 := hget l (j / size) hd (j % size) hm'
      rw [ej] at h3 h4
      rw [h3, ← h4, hu]
    · obtain ⟨i, hi, rfl⟩ := List.mem_iff_getElem.1 hy
      exact (h2 i hi).1
theorem trod_one {P : Program} {t : TypeId} {v : Value} {fuel : Nat} {x : DataW H × List MemPlace} (hv : v.cells.toList = [v]) (h : DataW.trod enc P w base sp held fuel t [v] = some x) : DataW.Trod enc P w base sp held t v x.1 x.2 := ⟨fuel, by rw [hv]; exact h⟩
theorem open_bytb {fuel : Nat} {v : Value} {x : DataW H × List MemPlace} (h : DataW.trod enc Tryz.prog w base sp held fuel 33 [v] = some x) (hsz : Rows.uptoBulk x.1 ≤ 1048576) :
    ∃ A n cap, ∃ l : List Nat, v = .slice A n cap ∧ Reads w w.heap.size 1 A n (l.map bv) ∧ l.length = n ∧ Byt l ∧ n ≤ cap ∧ cap ≤ maxLen ∧ n ≤ 1048576 := by
  obtain ⟨E, em, ec, rfl⟩ : ∃ E em ec, v = .slice E em ec := by
    rcases open_slice Tryz.underlying33 h with ⟨e, -⟩ | ⟨a, len, cap, m, n, D, Pl, e, -⟩ <;> injection e with e <;> exact ⟨_, _, _, e⟩
  have T2 : DataW.Trod enc Tryz.prog w base sp held 33 (.slice E em ec) x.1 x.2 := trod_one rfl h
  obtain ⟨zs, hzs⟩ := open_in_ints Tryz.underlying33 Tryz.underlying5 (by kernel_rfl) T2
  obtain ⟨data, hby, hdl, hd, h1, h2⟩ := hzs.bytes
  have hr := ints_small Tryz.underlying33 Tryz.underlying5 (by kernel_rfl) T2 hsz
  exact ⟨E, em, ec, data, rfl, hd, hdl, hby, h1, h2, hr⟩
/-- Rows of bytes that come in. -/
theorem open_matb {fuel : Nat} {v : Value} {x : DataW H × List MemPlace} (h : DataW.trod enc Tryz.prog w base sp held fuel 52 [v] = some x) (hsz : Rows.uptoBulk x.1 ≤ 1048576) :
    ∃ A n cap, ∃ ls : List (List Nat), v = .slice A n cap ∧ ls.length = n ∧ InM w A cap ls ∧ n ≤ 1048576 ∧ ∀ b ∈ ls, Byt b ∧ b.length ≤ 1048576 := by
  obtain ⟨A, n, cap, l, e, hr, hl, ho, h1, h2, h3⟩ := open_rowb (α := Option Addr × Nat × List Nat) (cells := fun a => [.slice a.1 a.2.2.length a.2.1]) (ok := fun a => RdB w a.1 a.2.2.length a.2.1 a.2.2 ∧ a.2.2.length ≤ 1048576) Tryz.underlying52 (by kernel_rfl) (by decide)
    (fun n cs y hy hb => by
      obtain ⟨u, rfl⟩ : ∃ u, cs = [u] := by
        rcases open_slice Tryz.underlying33 hy with ⟨e, -⟩ | ⟨a, len, cap, m, n, D, Pl, e, -⟩ <;> exact ⟨_, e⟩
      obtain ⟨A, n, cap, l, rfl, hr, rfl, hy, h1, h2, h3⟩ := open_bytb hy hb
      exact ⟨(A, cap, l), rfl, ⟨hr, hy, h1, h2⟩, h3⟩) (fun _ => rfl) h hsz
  have hf : l.flatMap (fun a => [Value.slice a.1 a.2.2.length a.2.1]) = l.map (fun a => Value.slice a.1 a.2.2.length a.2.1) := by
    clear hr hl ho
    induction l with
    | nil => rfl
    | cons a l ih => rw [List.flatMap_cons, ih]; rfl
  rw [hf] at hr
  refine ⟨A, n, cap, l.map (fun a => a.2.2), e, by rw [List.length_map]; exact hl, ⟨by rw [List.length_map]; omega, h2, l.map (fun a => Value.slice a.1 a.2.2.length a.2.1), by rw [List.length_map, hl]; exact hr, by simp, fun i b hb => ?_⟩, h3, fun b hb => ?_⟩
  · rw [List.getElem?_map] at hb
    obtain ⟨a, ha, rfl⟩ := Option.map_eq_some_iff.1 hb
    obtain ⟨g1, g2⟩ := ho a (List.mem_of_getElem? ha)
    exact ⟨a.1, a.2.1, by rw [List.getElem?_map, ha]; rfl, g1.2.2.1, g1.2.2.2, g1.1, g1.2.1⟩
  · obtain ⟨a, ha, rfl⟩ := List.mem_map.1 hb
    exact ⟨(ho a ha).1.2.1, (ho a ha).2⟩
end
end Go.Proofs.YtlnneacgllhdhaaGreatDoor
end
