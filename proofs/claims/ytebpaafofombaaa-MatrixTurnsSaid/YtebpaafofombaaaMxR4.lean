/-
  Check of what is no matrix; Pick, in the program and in the reference.
-/
import Derived.Test.YtebpaafofombaaaMxR3
namespace Go.Proofs.Ytebpaafofombaaa
open Go.RowKit GfMath MxMath
set_option linter.unusedVariables false
def RetBad (w : World) (e : Ending) (w' : World) : Prop := e = .returned (.tuple #[.int .i64 0, .int .i64 0, .int .i64 20]) ∧ Below w.heap.size w w'
set_option maxRecDepth 100000 in
set_option maxHeartbeats 1000000 in
theorem rcheck_bad (A : Option Addr) (cap : Nat) (ls : List (List Nat)) (w : World) (HM : Hid (InM w A cap ls)) (hg : ¬ ∃ n, Good ls n) :
    Calls Try.prog 26 #[.slice A ls.length cap] w (RetBad w) := by
  have HG := Lib.hid hg
  clear hg
  obtain ⟨r, hr⟩ : ∃ r, ls.length = r := ⟨_, rfl⟩
  have hr' := Lib.hid hr
  rw [hr]
  clear hr
  have hcap := HM.out.1
  have hmax := HM.out.2.1
  rw [hr'.out] at hcap
  unfold maxLen at hmax
  by_cases r0 : r = 0
  · subst r0
    go_enter Try.func26, Try.ntmps26
    go_wp2
    exact bodyPost_ret (v := .tuple #[.int .i64 0, .int .i64 0, .int .i64 20]) (by simp [results, Try.results26, go_sem]) rfl ⟨rfl, Below.refl _ _⟩
  by_cases r1 : 255 < r
  · go_enter Try.func26, Try.ntmps26
    go_wp2
    exact bodyPost_ret (v := .tuple #[.int .i64 0, .int .i64 0, .int .i64 20]) (by simp [results, Try.results26, go_sem]) rfl ⟨rfl, Below.refl _ _⟩
  obtain ⟨ad, B, c, rfl, hc0, hbc, hcm, -⟩ := HM.out.row (i := 0) (by rw [hr'.out]; omega)
  unfold maxLen at hcm
  obtain ⟨n, hn⟩ : ∃ n, (ls.getD 0 []).length = n := ⟨_, rfl⟩
  have hn' := Lib.hid hn
  rw [hn, show ad.add 0 = ad from by simp [Addr.add]] at hc0
  rw [hn] at hbc
  clear hn
  by_cases n0 : n = 0
  · subst n0
    go_enter Try.func26, Try.ntmps26
    go_wp2
    exact bodyPost_ret (v := .tuple #[.int .i64 0, .int .i64 0, .int .i64 20]) (by simp [results, Try.results26, go_sem]) rfl ⟨rfl, Below.refl _ _⟩
  by_cases n1 : 255 < n
  · go_enter Try.func26, Try.ntmps26
    go_wp2
    exact bodyPost_ret (v := .tuple #[.int .i64 0, .int .i64 0, .int .i64 20]) (by simp [results, Try.results26, go_sem]) rfl ⟨rfl, Below.refl _ _⟩
  go_enter Try.func26, Try.ntmps26
  go_wp2
  go_loopw [5] (fun vi wr => ∃ k d : Nat, k ≤ r ∧ vi = .int .i64 k ∧ wr = w.drewN d ∧ Hid (∀ i, i < k → (ls.getD i []).length = n)) (fun vi _ => r - (intOf vi).toNat)
  case atStart => exact ⟨0, 0, by omega, rfl, rfl, Lib.hid (fun i hi => absurd hi (by omega))⟩
  case round =>
    obtain ⟨k, d, hk, rfl, rfl, hall⟩ := hrel
    by_cases hlt : k < r
    · obtain ⟨ad', B', c', he, hc1, hbc', hcm', -⟩ := HM.out.row (i := k) (by rw [hr'.out]; exact hlt)
      cases he
      obtain ⟨m, hm⟩ : ∃ m, (ls.getD k []).length = m := ⟨_, rfl⟩
      have hm' := Lib.hid hm
      rw [hm] at hc1 hbc'
      clear hm
      unfold maxLen at hcm'
      by_cases g : m = n
      · subst g
        have H := Lib.hid (show ∀ i, i < k + 1 → (ls.getD i []).length = m from fun i hi => by
          rcases Nat.lt_or_eq_of_le (Nat.lt_succ_iff.1 hi) with h | h
          · exact hall.out i h
          · rw [h]; exact hm'.out)
        clear hall
        go_wp2
        go_quiet (fail)
        go_wp2
        exact ⟨⟨k + 1, _, by omega, by go_num, by first | rfl | exact World.drewN_drewN .., H⟩, by simp [intOf]; omega⟩
      · have f3 : ((m : Int) != (n : Int)) = true := by simp; omega
        have f4 : ((m : Int) == (n : Int)) = false := by simp; omega
        clear g hall
        go_wp2
        go_quiet (fail)
        go_wp2
        exact bodyPost_ret (v := .tuple #[.int .i64 0, .int .i64 0, .int .i64 20]) (by simp [results, Try.results26, go_sem]) rfl ⟨rfl, by first | exact bel_drewN (Below.refl _ _) _ | exact bel_drewN (bel_drewN (Below.refl _ _) _) _⟩
    · obtain rfl : r = k := by omega
      refine absurd ⟨n, ?_⟩ HG.out
      exact ⟨by rw [hr'.out]; omega, by rw [hr'.out]; omega, by omega, by omega, fun i hi => hall.out i (by rw [hr'.out] at hi; exact hi)⟩
def rowsOk (zs : List Int) (m n : Nat) : Prop := ∀ i, i < m → 0 ≤ zs.getD i 0 ∧ zs.getD i 0 < (n : Int)
def pickM (M : Mat) (zs : List Int) : Mat := fun i => M (zs.getD i 0).toNat
def RetPick (zs : List Int) (m n k : Nat) (M : Mat) (w : World) (e : Ending) (w' : World) : Prop := (rowsOk zs m n ∧ RetMM (lmat m k (pickM M zs)) 0 w e w') ∨ (¬ rowsOk zs m n ∧ RetNone 2 w e w')
section
variable (A B : Option Addr) (ca cb n k m : Nat) (M : Mat) (zs : List Int) (w : World)
theorem int_at {w : World} {B0 m : Nat} {B : Option Addr} {zs : List Int} (h : Reads w B0 1 B m (zs.map (Value.int .i64))) {i : Nat} (hi : i < m) : ∃ bd, B = some bd ∧ bd.block < B0 ∧ w.cell? (bd.add i) = some (.int .i64 (zs.getD i 0)) := by
  obtain ⟨bd, u, e, hb, hu, hd⟩ := h.at_ hi
  have hl : i < zs.length := by have := h.1; simp at this; omega
  refine ⟨bd, e, hb, ?_⟩
  rw [hd, ← hu, List.getElem?_map, List.getElem?_eq_getElem hl, List.getD_eq_getElem?_getD, List.getElem?_eq_getElem hl]
  rfl
set_option maxRecDepth 100000 in
set_option maxHeartbeats 4000000 in
theorem pick_z (HA : Hid (InM w A ca (lmat n k M))) (HB : Hid (Reads w w.heap.size 1 B m (zs.map (Value.int .i64))))
    (n0 : 0 < n) (n1 : n ≤ 255) (k0 : 0 < k) (k1 : k ≤ 255) (m0 : 0 < m) (m1 : m ≤ 255) :
    Calls Try.prog 19 #[.slice A n ca, .slice B m cb] w (RetPick zs m n k M w) := by
  have e1 : decide (0 < (m : Int)) = true := decide_eq_true (by omega)
  have e2 : decide ((m : Int) ≤ 255) = true := decide_eq_true (by omega)
  have HST : Hid (ESt w (.slice none 0 0) (lmat 0 k (pickM M zs)) (w.alloc (.cells #[.int .i64 0] 26))) := Lib.hid (ESt.new w)
  have HA1 := Lib.hid (HA.out.later HST.out.bel)
  go_enter_defers Try.func19, Try.ntmps19
  go_wp2_with (first
    | (go_at_call 32; refine (needs_ok _).mono ?_; rintro e w1 ⟨rfl, rfl⟩)
    | (go_at_call 33; refine (sized_mat _ _ _ _ _ _ HA1 (by assumption) (by assumption) (by assumption) (by assumption)).mono ?_; rintro e w1 ⟨rfl, rfl⟩))
  generalize w.alloc (.cells #[.int .i64 0] 26) = wa at *
  go_loopw [4, 9, 26] (fun vo _ vi wr => ∃ i : Nat, i ≤ m ∧ vi = .int .i64 i ∧ Hid (ESt w vo (lmat i k (pickM M zs)) wr ∧ rowsOk zs i n)) (fun _ _ vi _ => m - (intOf vi).toNat)
  case atStart => exact ⟨0, by omega, rfl, Lib.hid ⟨HST.out, fun i hi => absurd hi (by omega)⟩⟩
  case round =>
    obtain ⟨i, hi, rfl, hst0⟩ := hrel
    have hst := Lib.hid hst0.out.1
    have HRO := Lib.hid hst0.out.2
    clear HST HA1 hst0
    by_cases hlt : i < m
    · obtain ⟨bd, rfl, _, hd⟩ := int_at (HB.out.later hst.out.bel) hlt
      obtain ⟨z, hz⟩ : ∃ z, zs.getD i 0 = z := ⟨_, rfl⟩
      have HZ := Lib.hid hz
      rw [hz] at hd
      clear hz
      by_cases z0 : z < 0
      · have hcE := hst.out.err.cell 0
        have hfE := hst.out.err.frozen 0
        have HEnd := Lib.hid (hst.out.ends 2)
        have HNR : Hid (¬ rowsOk zs m n) := Lib.hid (fun h => by have := (h i hlt).1; rw [HZ.out] at this; omega)
        have d1 : decide (z < 0) = true := decide_eq_true z0
        go_wp2
        have hx := HEnd.out.2
        refine leaves_cons (f := 31) (args := #[.pointer (some ⟨w.heap.size, 0, none⟩)]) (by simp) (by simp [go_sem]) ?_
        refine (refused_idle _ _).mono ?_
        rintro e u' w'' ⟨rfl, rfl, rfl⟩
        simp [Leaves, settle, results, Try.results19, go_sem, hx]
        exact .inr ⟨HNR.out, rfl, HEnd.out.1.bel⟩
      · by_cases z1 : (n : Int) ≤ z
        · have hcE := hst.out.err.cell 0
          have hfE := hst.out.err.frozen 0
          have HEnd := Lib.hid (hst.out.ends 2)
          have HNR : Hid (¬ rowsOk zs m n) := Lib.hid (fun h => by have := (h i hlt).2; rw [HZ.out] at this; omega)
          have d1 : decide (z < 0) = false := decide_eq_false z0
          have d2 : decide ((n : Int) ≤ z) = true := decide_eq_true z1
          go_wp2
          have hx := HEnd.out.2
          refine leaves_cons (f := 31) (args := #[.pointer (some ⟨w.heap.size, 0, none⟩)]) (by simp) (by simp [go_sem]) ?_
          refine (refused_idle _ _).mono ?_
          rintro e u' w'' ⟨rfl, rfl, rfl⟩
          simp [Leaves, settle, results, Try.results19, go_sem, hx]
          exact .inr ⟨HNR.out, rfl, HEnd.out.1.bel⟩
        · obtain ⟨x, rfl⟩ : ∃ x : Nat, z = (x : Int) := ⟨z.toNat, by omega⟩
          have hrn : x < n := by omega
          obtain ⟨ad, D, c', rfl, hc1, h3, h4, hrow⟩ := (HA.out.later hst.out.bel).mrow hrn
          have HRow := Lib.hid hrow
          clear hrow z0 z1
          have d1 : decide ((x : Int) < 0) = false := decide_eq_false (by omega)
          have d2 : decide ((n : Int) ≤ (x : Int)) = false := decide_eq_false (by omega)
          go_wp2_with (first
            | (at_builtin
               refine wpl_row rfl (.tmp 37) (.tmp 43) rfl (hst.out.later HQ.out.2.1).toMSt ?ln (.slice V k c1) (lrow k (M x)) ?ow (lrow_byt _ _) rfl ?gx rfl ?_
               case gx => rfl
               case ln => (rw [lmat_len]; omega)
               case ow => (rw [lrow_len]; exact own_base HQ.out.1 hst.out.bel.size)
               intro v2 w2 hh)
            | (at_builtin
               refine wpl_append rfl (.const (.slice none 0 0)) (.tmp 41) _ rfl wr wr.heap.size 5 _ 1 1 Try.underlying22 Try.info5 rfl (by decide) (.slice none 0 0) 0 [] rfl ?own wr.heap.size D k c' ((lrow k (M x)).map bv) rfl HRow.out (bv_one _) ?byt (by decide) (Below.refl _ _) (Nat.le_refl _) ?_
               case own => exact ⟨rfl, .inl ⟨rfl, rfl⟩⟩
               case byt => omega
               intro v1 w1 hw1
               have hq := hw1.out
               rw [Nat.zero_add, List.nil_append] at hq
               obtain ⟨V, c1, rfl, -, -⟩ := own_slice hq.1
               have HQ := Lib.hid hq
               clear hq hw1))
          refine ⟨⟨i + 1, by omega, by go_num, Lib.hid ⟨⟨?_, ?_⟩, ?_⟩⟩, by simp [intOf]; omega⟩
          · rw [lmat_snoc]
            have e : pickM M zs i = M x := by unfold pickM; rw [HZ.out, Int.toNat_natCast]
            rw [e]
            exact hh.out.1
          · exact hh.out.2 _ _ _ (by decide) (hst.out.later HQ.out.2.1).err
          · intro q hq
            rcases Nat.lt_or_eq_of_le (Nat.lt_succ_iff.1 hq) with h | h
            · exact HRO.out q h
            · rw [h, HZ.out]; omega
    · obtain rfl : m = i := by omega
      have hcE := hst.out.err.cell 0
      have hfE := hst.out.err.frozen 0
      have hEnd := hst.out.ends 0
      have HEnd := Lib.hid hEnd
      clear hEnd
      go_wp2
      have hx := HEnd.out.2
      refine leaves_cons (f := 31) (args := #[.pointer (some ⟨w.heap.size, 0, none⟩)]) (by simp) (by simp [go_sem]) ?_
      refine (refused_idle _ _).mono ?_
      rintro e u' w'' ⟨rfl, rfl, rfl⟩
      simp [Leaves, settle, results, Try.results19, go_sem, hx]
      exact .inl ⟨HRO.out, _, rfl, HEnd.out.1⟩
set_option maxRecDepth 100000 in
set_option maxHeartbeats 4000000 in
theorem rpick_z (HA : Hid (InM w A ca (lmat n k M))) (HB : Hid (Reads w w.heap.size 1 B m (zs.map (Value.int .i64))))
    (n0 : 0 < n) (n1 : n ≤ 255) (k0 : 0 < k) (k1 : k ≤ 255) (m0 : 0 < m) (m1 : m ≤ 255) :
    Calls Try.prog 20 #[.slice A n ca, .slice B m cb] w (RetPick zs m n k M w) := by
  have HST : Hid (MSt w (.slice none 0 0) (lmat 0 k (pickM M zs)) w) := Lib.hid (MSt.nil (Below.refl _ _))
  have HCK := Lib.hid (rcheck_ok A ca k (lmat n k M) w HA (lmat_good M n0 n1 k0 k1))
  rw [lmat_len] at HCK
  go_enter Try.func20, Try.ntmps20
  go_wp2_with (go_at_call 26; refine (HCK.out).mono ?_; rintro e w1 ⟨rfl, hb⟩; have HST := Lib.hid (HST.out.below hb); clear hb)
  go_loopw [9, 10] (fun vo vi wr => ∃ i : Nat, i ≤ m ∧ vi = .int .i64 i ∧ Hid (MSt w vo (lmat i k (pickM M zs)) wr ∧ rowsOk zs i n)) (fun _ vi _ => m - (intOf vi).toNat)
  case atStart => exact ⟨0, by omega, rfl, Lib.hid ⟨HST.out, fun i hi => absurd hi (by omega)⟩⟩
  case round =>
    obtain ⟨i, hi, rfl, hst0⟩ := hrel
    have hst := Lib.hid hst0.out.1
    have HRO := Lib.hid hst0.out.2
    clear HST hst0
    by_cases hlt : i < m
    · obtain ⟨bd, rfl, _, hd⟩ := int_at (HB.out.later hst.out.bel) hlt
      obtain ⟨z, hz⟩ : ∃ z, zs.getD i 0 = z := ⟨_, rfl⟩
      have HZ := Lib.hid hz
      rw [hz] at hd
      clear hz
      by_cases z0 : z < 0
      · have HNR : Hid (¬ rowsOk zs m n) := Lib.hid (fun h => by have := (h i hlt).1; rw [HZ.out] at this; omega)
        have d1 : decide (z < 0) = true := decide_eq_true z0
        go_wp2
        go_ret2
        exact .inr ⟨HNR.out, rfl, hst.out.bel⟩
      · by_cases z1 : (n : Int) ≤ z
        · have HNR : Hid (¬ rowsOk zs m n) := Lib.hid (fun h => by have := (h i hlt).2; rw [HZ.out] at this; omega)
          have d1 : decide (z < 0) = false := decide_eq_false z0
          have d2 : decide ((n : Int) ≤ z) = true := decide_eq_true z1
          go_wp2
          go_ret2
          exact .inr ⟨HNR.out, rfl, hst.out.bel⟩
        · obtain ⟨x, rfl⟩ : ∃ x : Nat, z = (x : Int) := ⟨z.toNat, by omega⟩
          have hrn : x < n := by omega
          obtain ⟨ad, D, c', rfl, hc1, h3, h4, hrow⟩ := (HA.out.later hst.out.bel).mrow hrn
          have HCP := Lib.hid (copy_any D c' (lrow k (M x)) wr (by rw [lrow_len]; exact hrow) (by rw [lrow_len]; omega))
          rw [lrow_len] at HCP
          clear hrow z0 z1
          have d1 : decide ((x : Int) < 0) = false := decide_eq_false (by omega)
          have d2 : decide ((n : Int) ≤ (x : Int)) = false := decide_eq_false (by omega)
          go_wp2_with (first
            | (go_at_call 23; refine (HCP.out).mono ?_; rintro e w1 ⟨u, rfl, ho, hb⟩; rw [List.length_map, lrow_len] at ho; obtain ⟨U, uc, rfl, -, -⟩ := own_slice ho; have HU := Lib.hid ho; have HBU := Lib.hid hb; clear ho hb)
            | (at_builtin
               refine wpl_row rfl (.tmp 47) (.tmp 56) rfl (hst.out.below HBU.out) ?ln (.slice U k uc) (lrow k (M x)) ?ow (lrow_byt _ _) rfl ?gx rfl ?_
               case gx => rfl
               case ln => (rw [lmat_len]; omega)
               case ow => (rw [lrow_len]; exact own_base HU.out hst.out.bel.size)
               intro v2 w2 hh))
          refine ⟨⟨i + 1, by omega, by go_num, Lib.hid ⟨?_, ?_⟩⟩, by simp [intOf]; omega⟩
          · rw [lmat_snoc]
            have e : pickM M zs i = M x := by unfold pickM; rw [HZ.out, Int.toNat_natCast]
            rw [e]
            exact hh.out.1
          · intro q hq
            rcases Nat.lt_or_eq_of_le (Nat.lt_succ_iff.1 hq) with h | h
            · exact HRO.out q h
            · rw [h, HZ.out]; omega
    · obtain rfl : m = i := by omega
      go_wp2
      go_ret2
      exact .inl ⟨HRO.out, _, rfl, hst.out⟩
end
end Go.Proofs.Ytebpaafofombaaa
