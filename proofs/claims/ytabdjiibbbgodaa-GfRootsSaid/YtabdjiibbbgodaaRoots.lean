/-
  GfRoots holds for every row of roots and every element: a product of linear factors is nought just at its roots.
-/
import Derived.Test.YtabdjiibbbgodaaRootsM
import Derived.Test.YtabdjiibbbgodaaLib3
namespace Go.Proofs.Ytabdjiibbbgodaa
open Go.RowKit GfMath
set_option linter.unusedVariables false
/-- What holds at the head of the outer loop: p reads as the product of the first i factors. -/
def RootsRel (w : World) (rs : List Nat) (x i : Nat) (vp va : Value) (wr : World) : Prop :=
  ∃ (A : Option Addr) (cap : Nat), vp = .slice A (i + 1) cap ∧ va = .bool (amg (rs.take i) x) ∧ Reads wr wr.heap.size 1 A (i + 1) ((poly (rs.take i)).map bv) ∧ Below w.heap.size w wr
def RootsIn (w0 : World) (p : List Nat) (r k : Nat) (v : Value) (wr : World) : Prop :=
  wr.ownsRow w0.heap.size 5 1 v k (((pm p r).take k).map bv) ∧ Below w0.heap.size w0 wr
theorem quiet_left9 (a b : Nat) (ha : a < 256) (hb : b < 256) (w : World) (n : Nat) :
    Calls Try.prog 9 #[.int .u8 a, .int .u8 b] (w.drewN n) fun e w'' => e = .returned (.int .u8 (gmul a b)) ∧ ∃ m, w'' = w.drewN m :=
  (mul_any a b ha hb _).mono fun _ _ ⟨h1, h2⟩ => ⟨h1, n, h2⟩
set_option maxRecDepth 100000 in
set_option maxHeartbeats 2000000 in
theorem roots_in (A : Option Addr) (cap n : Nat) (rs : List Nat) (x : Nat) (w : World) (hrs : Byt rs) (hx : x < 256) (hn : rs.length = n)
    (hr : Reads w w.heap.size 1 A n (rs.map bv)) (hm : n ≤ 60) :
    Calls Try.prog 5 #[.slice A n cap, .int .u8 x] w fun e w' => e = .returned (.bool true) ∧ Below w.heap.size w w' := by
  obtain ⟨i0, hi0, hz0, hz1, hz2⟩ := info_parts Try.info5
  have HR := Lib.hid hr
  clear hr
  go_enter Try.func5, Try.ntmps5
  go_wp2
  go_loopw [5, 6, 7] (fun vp va vi wr => ∃ i : Nat, i ≤ n ∧ vi = .int .i64 i ∧ RootsRel w rs x i vp va wr) (fun _ _ vi _ => n - (intOf vi).toNat)
  case atStart => exact ⟨0, by omega, rfl, _, 1, rfl, rfl, Reads.lit w 5 [bv 1] 1 1 rfl, (Below.refl _ _).alloc (Nat.le_refl _) _⟩
  case round =>
    obtain ⟨i, hi, rfl, A1, c1, rfl, rfl, hr1, hb1⟩ := hrel
    have HR1 := Lib.hid hr1
    clear hr1
    by_cases hlt : i < n
    · go_wp2
      obtain ⟨w0, rfl⟩ : ∃ w0 : World, w0 = wr := ⟨_, rfl⟩
      obtain ⟨adr, rfl, hblr, hcr⟩ := HR.out.byteD (k := i) hlt
      have lr := hrs.getD i
      obtain ⟨r, er⟩ : ∃ r, rs.getD i 0 = r := ⟨_, rfl⟩
      rw [er] at hcr lr
      have ER := Lib.hid er
      clear er
      obtain ⟨p, hp⟩ : ∃ p, poly (rs.take i) = p := ⟨_, rfl⟩
      have hpl : p.length = i + 1 := by rw [← hp, poly_len]; simp; omega
      have hpb : Byt p := by rw [← hp]; exact poly_byt _
      have HP := Lib.hid hp
      rw [hp] at HR1
      clear hp
      have HCR := Lib.hid hcr
      clear hcr
      obtain ⟨ad, rfl, hbl, _⟩ := HR1.out.byteD (k := 0) (by omega)
      go_loopw [8, 9] (fun vq vk wi => ∃ k : Nat, k ≤ i + 2 ∧ vk = .int .i64 k ∧ RootsIn w0 p r k vq wi) (fun _ vk _ => i + 2 - (intOf vk).toNat)
      case atStart => exact ⟨0, by omega, rfl, World.ownsRow_nil _ _ _ _, Below.refl _ _⟩
      case round =>
        obtain ⟨k, hk, rfl, hO, hB⟩ := hrel
        have HO := Lib.hid hO
        clear hO
        by_cases hk2 : k ≤ i + 1
        · have hg0 := pm_take p r k (by omega)
          have HRi := HR1.out.below hB
          have f0 : wr.cell? (adr.add i) = some (.int .u8 (r : Nat)) := by rw [hB.cell (by rw [block_of_add]; exact Nat.lt_of_lt_of_le hblr hb1.size), hb1.cell (by rw [block_of_add]; exact hblr)]; exact HCR.out
          by_cases hk0 : k = 0
          · obtain ⟨ad', e, _, hc0⟩ := HRi.byteD (k := 0) (by omega)
            injection e with e
            subst e
            rw [if_pos hk0, Nat.xor_zero, hk0] at hg0
            obtain ⟨q, hq⟩ : ∃ q, p.getD 0 0 = q := ⟨_, rfl⟩
            rw [hq] at hg0 hc0
            have hc0 : wr.cell? ad = some (.int .u8 (q : Nat)) := hc0
            have hg := Lib.hid hg0
            clear HRi hq hg0
            subst hk0
            go_wp2_with (at_builtin
                         refine wpl_append rfl (.tmp 50) (.tmp 52) _ rfl w0 w0.heap.size 5 _ 1 1 Try.underlying32 Try.info5 rfl (by decide) u8 0 (((pm p r).take 0).map bv) rfl ?own (wr.heap.size + 1) (some ⟨wr.heap.size, 0, none⟩) 1 1 [bv q] rfl ?rd (bv_one [q]) (by omega) (by decide) ?bel ?base ?_
                         case own => exact HO.out.alloc _
                         case rd => exact Reads.litt1 wr 5 (bv q)
                         case bel => exact hB.alloc hB.size _
                         case base => (simp; exact Nat.le_succ_of_le hB.size)
                         intro v1 w1 hh)
            refine ⟨⟨1, by omega, rfl, ?_, hh.out.2.1⟩, by simp [intOf]⟩
            have e1 := hg.out
            rw [show (0 + 1) = 1 from rfl] at e1
            rw [e1, List.map_append]
            exact hh.out.1
          · rw [if_neg hk0] at hg0
            obtain ⟨j, hj⟩ : ∃ j, k = j + 1 := ⟨k - 1, by omega⟩
            have ek : (k : Int) - 1 = (j : Int) := by omega
            have hk1 : 0 < k := by omega
            have hji : j < i + 1 := by omega
            have hji2 : j ≤ i := by omega
            rw [show k - 1 = j from by omega] at hg0
            obtain ⟨ad', e, _, hc1⟩ := HRi.byteD (k := j) hji
            injection e with e
            subst e
            have l1 := hpb.getD j
            obtain ⟨q, hq⟩ : ∃ q, p.getD j 0 = q := ⟨_, rfl⟩
            rw [hq] at hg0 hc1 l1
            have l3 : gmul q r < 256 := gmul_lt l1
            clear hq hj
            by_cases hk3 : k < i + 1
            · obtain ⟨ad', e, _, hc0⟩ := HRi.byteD (k := k) hk3
              injection e with e
              subst e
              have l2 := hpb.getD k
              obtain ⟨q2, hq⟩ : ∃ q2, p.getD k 0 = q2 := ⟨_, rfl⟩
              rw [hq] at hg0 hc0 l2
              have x1 := xor8 q2 (gmul q r) l2 l3
              have hg := Lib.hid hg0
              clear HRi hq hg0
              go_wp2_with fail
              go_quiet ((go_at_call 9; exact quiet_left9 _ _ l1 lr _ _))
              have HO2 := Lib.hid (show (wr.drewN nq).ownsRow _ _ _ _ _ _ from HO.out)
              have hB2 := bel_drewN hB nq
              generalize wr.drewN nq = w2 at HO2 hB2 ⊢
              clear hB HO f0 hc1
              go_wp2_with (at_builtin
                           refine wpl_append rfl (.tmp 50) (.tmp 52) _ rfl w0 w0.heap.size 5 _ 1 1 Try.underlying32 Try.info5 rfl (by decide) u8 k (((pm p r).take k).map bv) rfl ?own (w2.heap.size + 1) (some ⟨w2.heap.size, 0, none⟩) 1 1 [bv (q2 ^^^ gmul q r)] rfl ?rd (bv_one [(q2 ^^^ gmul q r)]) (by omega) (by decide) ?bel ?base ?_
                           case own => exact HO2.out.alloc _
                           case rd => exact Reads.litt1 w2 5 (bv (q2 ^^^ gmul q r))
                           case bel => exact hB2.alloc hB2.size _
                           case base => (simp; exact Nat.le_succ_of_le hB2.size)
                           intro v1 w1 hh)
              refine ⟨⟨k + 1, by omega, by go_num, ?_, hh.out.2.1⟩, by simp [intOf]; omega⟩
              rw [hg.out, List.map_append]
              exact hh.out.1
            · rw [show p.getD k 0 = 0 from by rw [List.getD_eq_getElem?_getD, List.getElem?_eq_none (by omega)]; rfl, Nat.zero_xor] at hg0
              have x1 : bits .xor .u8 0 ((gmul q r : Nat) : Int) = ((gmul q r : Nat) : Int) := by have := xor8 0 (gmul q r) (by omega) l3; rwa [Nat.zero_xor] at this
              have hg := Lib.hid hg0
              clear HRi hg0
              go_wp2_with fail
              go_quiet ((go_at_call 9; exact quiet_left9 _ _ l1 lr _ _))
              have HO2 := Lib.hid (show (wr.drewN nq).ownsRow _ _ _ _ _ _ from HO.out)
              have hB2 := bel_drewN hB nq
              generalize wr.drewN nq = w2 at HO2 hB2 ⊢
              clear hB HO f0 hc1
              go_wp2_with (at_builtin
                           refine wpl_append rfl (.tmp 50) (.tmp 52) _ rfl w0 w0.heap.size 5 _ 1 1 Try.underlying32 Try.info5 rfl (by decide) u8 k (((pm p r).take k).map bv) rfl ?own (w2.heap.size + 1) (some ⟨w2.heap.size, 0, none⟩) 1 1 [bv (gmul q r)] rfl ?rd (bv_one [(gmul q r)]) (by omega) (by decide) ?bel ?base ?_
                           case own => exact HO2.out.alloc _
                           case rd => exact Reads.litt1 w2 5 (bv (gmul q r))
                           case bel => exact hB2.alloc hB2.size _
                           case base => (simp; exact Nat.le_succ_of_le hB2.size)
                           intro v1 w1 hh)
              refine ⟨⟨k + 1, by omega, by go_num, ?_, hh.out.2.1⟩, by simp [intOf]; omega⟩
              rw [hg.out, List.map_append]
              exact hh.out.1
        · obtain rfl : k = i + 2 := by omega
          have f0 : wr.cell? (adr.add i) = some (.int .u8 (r : Nat)) := by rw [hB.cell (by rw [block_of_add]; exact Nat.lt_of_lt_of_le hblr hb1.size), hb1.cell (by rw [block_of_add]; exact hblr)]; exact HCR.out
          obtain ⟨A2, c2, rfl, _, _⟩ := own_slice HO.out
          have hpm : (pm p r).length = i + 2 := by rw [pm_len, hpl]
          have hO2 := HO.out
          rw [List.take_of_length_le (by omega)] at hO2
          have e1 : poly (rs.take (i + 1)) = pm p r := by rw [take_snocD rs i (by omega), poly_snoc, HP.out, ER.out]
          have hfin : Reads wr wr.heap.size 1 (some adr) 0 [] := ⟨rfl, fun h => absurd h (by omega)⟩
          have hR2 : Reads wr wr.heap.size 1 A2 (i + 1 + 1) ((poly (rs.take (i + 1))).map bv) := by rw [e1]; exact Reads.of_own hO2
          have e2 : amg (rs.take (i + 1)) x = (amg (rs.take i) x || (r == x)) := by rw [take_snocD rs i (by omega), ER.out]; simp [amg]
          have hB2 := bel_trans hb1 hB
          have R2 := Lib.hid hR2
          have E2 := Lib.hid e2
          clear hO2 hR2 e1 e2 hfin hpm HO
          rcases hb : amg (rs.take i) x with _ | _
          · go_wp2
            refine ⟨⟨i + 1, by omega, by go_num, A2, c2, rfl, ?_, R2.out, hB2⟩, by simp [intOf]; omega⟩
            rw [E2.out, hb, Bool.false_or]
            congr 1
            by_cases h : r = x
            · subst h; simp
            · rw [beq_eq_false_iff_ne.2 h, beq_eq_false_iff_ne.2 (by omega)]
          · go_wp2
            refine ⟨⟨i + 1, by omega, by go_num, A2, c2, rfl, ?_, R2.out, hB2⟩, by simp [intOf]; omega⟩
            rw [E2.out, hb]; rfl
    · obtain rfl : i = n := by omega
      have hlen : (poly (rs.take i)).length = i + 1 := by rw [poly_len]; simp; omega
      have hr1 := HR1.out
      have hrt : rs.take i = rs := List.take_of_length_le (by omega)
      rw [hrt] at hr1 hlen ⊢
      have ha : (((evl (poly rs) x : Nat) : Int) == 0) = amg rs x := by
        rw [Bool.eq_iff_iff]; exact amg_root hrs hx
      have hev := eval_any A1 c1 (poly rs) x wr (poly_byt rs) hx (by rw [hlen]; exact hr1) (by rw [hlen]; unfold maxLen; omega)
      rw [hlen] at hev
      have HEV := Lib.hid hev
      clear hev hr1 hrt hlen
      rcases hb : amg rs x with _ | _
      all_goals
        rw [hb] at ha
        go_wp2_with (first | (go_at_call 14; refine HEV.out.mono ?_; rintro e w' ⟨rfl, rfl⟩) | (go_at_call 11; refine (heads_any _).mono ?_; rintro e wg ⟨rfl, hg1⟩))
        go_ret
        exact ⟨rfl, bel_trans hb1 hg1⟩
set_option maxRecDepth 100000 in
set_option maxHeartbeats 2000000 in
theorem roots_out (A : Option Addr) (cap n : Nat) (x : Nat) (w : World) (hm : 60 < n) (hm2 : n ≤ maxLen) :
    Calls Try.prog 5 #[.slice A n cap, .int .u8 x] w fun e w' => e = .returned (.bool true) ∧ Below w.heap.size w w' := by
  unfold maxLen at hm2
  go_enter Try.func5, Try.ntmps5
  go_wp2_with (go_at_call 11; refine (heads_any _).mono ?_; rintro e wg ⟨rfl, hg1⟩)
  go_ret
  exact ⟨rfl, hg1⟩
theorem walk_GfRoots (W : World) (A : Option Addr) (n cap : Nat) (z : List Int) (h : Ints .u8 W A n cap z) (a : Int) (wa : (Lit.int .u8 a).wf = true) :
    Calls Try.prog 5 #[.slice A n cap, .int .u8 a] W fun e w' => e = .returned (.bool true) ∧ Below W.heap.size W w' := by
  obtain ⟨x, rfl, hx⟩ := u8_of wa
  obtain ⟨xs, hxs, hl, hr, h1, h2⟩ := h.bytes
  by_cases hm : n ≤ 60
  · exact roots_in A cap n xs x W hxs hx hl hr hm
  · exact roots_out A cap n x W (by omega) (by omega)
namespace gfRoots
open Go.ChangeShapes Go.WideShapes Go.ChangeAt Go.RowKit
open Go.ChangeMaps (open_string shut_string)
set_option linter.unusedVariables false
theorem own : ownKnob Try.prog.godebug = none := by kernel_rfl
theorem laidOut : laidOutB Try.prog = true := by kernel_rfl
set_option maxRecDepth 100000 in
theorem contract (H : Type) (enc : TypeId × Value → H) (W : World) (base : Nat) (args : Array Value) (ds gs : List (DataW H)) (before : List MemPlace)
    (hval0 : ∀ (j : Nat) t v, Try.f5.params[j]? = some t → args[j]? = some v → Value.okWide Try.prog W .any base t v)
    (hW : DataW.Whole enc Try.prog Try.f5.params.toList Rows.gfRootsSpec.vars false W args.toList ds gs before) :
    Calls Try.prog 5 args W fun e W' => ∃ v, e = .returned v ∧ Rows.gfRootsSpec.post enc Try.prog Try.f5 false true false false W args v W' := by
  have hval : ∀ (j : Nat) t v, Try.f5.params[j]? = some t → args[j]? = some v → Value.okWide Try.prog W .any base t v := hval0
  have hW' := hW
  obtain ⟨p, q, hA0, hV, rfl, hfz, hnd⟩ := hW
  have hA : DataW.TrodAll enc Try.prog W 0 (fun _ => true) true Try.f5.params.toList args.toList ds p := hA0
  rw [Try.params5] at hA hval
  obtain ⟨v0, vs0, d0, ds0, p0, q0, hargs, rfl, rfl, h0, r0⟩ := trodAll_cons hA
  obtain ⟨v1, vs1, d1, ds1, p1, q1, rfl, rfl, rfl, h1, r1⟩ := trodAll_cons r0
  obtain ⟨rfl, rfl, rfl⟩ := trodAll_nil r1
  obtain rfl : args = #[v0, v1] := by cases args; simp_all
  obtain ⟨rfl, rfl⟩ := trodVars_none hV
  have k0 := h0
  have lt0 : ∀ x ∈ p0, x.block < W.heap.size := by obtain ⟨m, hm⟩ := k0; exact DataW.trod_lt m _ _ _ hm
  have k1 := h1
  have lt1 : ∀ x ∈ p1, x.block < W.heap.size := by obtain ⟨m, hm⟩ := k1; exact DataW.trod_lt m _ _ _ hm
  obtain ⟨A0, len0, cap0, rfl⟩ := okWide_slice Try.underlying32 (hval 0 32 v0 rfl rfl)
  obtain ⟨z0, w0⟩ := open_in_ints Try.underlying32 Try.underlying5 (by kernel_rfl) h0
  obtain ⟨a1, rfl, rfl, rfl, w1⟩ := open_int Try.underlying5 (hval 1 5 v1 rfl rfl) h1
  clear hA0 hval0
  refine (walk_GfRoots W A0 len0 cap0 z0 w0 a1 w1).mono fun e W' ⟨he, bel⟩ => ?_
  subst he
  exact ⟨_, rfl, _, _, _, [], _, [], hW', trodAll_mk1 (shut_bool Try.underlying4 _), (trodAll_cons_mk (Below.trod laidOut (by kernel_rfl) (of_decide_eq_true (by kernel_rfl)) k0 bel lt0) (trodAll_cons_mk (Below.trod laidOut (by kernel_rfl) (of_decide_eq_true (by kernel_rfl)) k1 bel lt1) trodAll_mk0)), rfl, bel.frame _, fun h => by cases h⟩
set_option maxRecDepth 100000 in
theorem lifted (os : Os) (started : os.Started) (H : Type) (enc : TypeId × Value → H) :
    ReturnsInHanded {} Try.checked os 5 .any (Rows.gfRootsSpec.pre6 enc Try.prog Try.f5 Rows.gfRootsRow.domain false) (Rows.gfRootsSpec.post enc Try.prog Try.f5 false true false false) := by
  refine returnsInHanded_of_change (C := Try.checked) own started (by kernel_rfl) Try.func5
    (ChangeSpec.witness6 (enc := enc) (C := Try.checked) false ⟨#[], #[.slice none 0 0, .int .u8 0], []⟩ 8 (by kernel_rfl) (by kernel_rfl) (by kernel_rfl) (by kernel_rfl)) ?_
  intro W base args ds gs before hval hW _ _
  exact contract H enc W base args ds gs before hval hW
theorem over : Rows.gfRootsRow.holds Try.pinned (OpenSpec.ofChange Rows.gfRootsSpec) :=
  OpenClaim.holds_of_wide 5 Try.f5 rfl rfl rfl rfl rfl rfl rfl ⟨rfl, rfl, rfl, rfl, rfl⟩ rfl rfl rfl rfl rfl (by kernel_rfl) Try.func5 (by kernel_rfl)
    (of_decide_eq_true (by kernel_rfl)) (by unfold Func.isWrapper; first | (rw [if_pos (by decide +kernel)]; kernel_rfl) | (rw [if_neg (by decide +kernel)]; exact ⟨rfl, rfl⟩))
    (fun os started H enc _ => lifted os started H enc)
/-- THE STATEMENT. -/
theorem proved : Rows.GfRootsSaid := over
end gfRoots
end Go.Proofs.Ytabdjiibbbgodaa
