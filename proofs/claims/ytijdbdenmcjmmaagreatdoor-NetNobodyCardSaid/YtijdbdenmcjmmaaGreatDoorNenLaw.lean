/-
  NetNobody is true: a net that no call made answers that it is none, whatever is asked; for every act. (printed by gen_nt8.py)
-/
import Derived.Deep.Slices
import Derived.Test.YtijdbdenmcjmmaaGreatDoorNen32
namespace Go.Proofs.YtijdbdenmcjmmaaGreatDoor
open Go.RowKit OctMath
set_option linter.unusedVariables false
set_option linter.unusedSimpArgs false
def zeroM : MG := ⟨⟨0, 0, 0, 0, 0, 0, 0, 0, false, false, [], [], [], ⟨⟨0, 0, 0⟩, 0, 0, 0, 0⟩, [], 0, 0, 0, [], 0, []⟩, [], none, 0, none, 0, none, 0, none, 0, none, 0⟩
theorem zeroM_cs : mgCs zeroM = msgZ := by unfold zeroM mgCs mgA msgZ; rfl
theorem zeroM_in (w : World) : MgIn w zeroM := by
  have rz : ∀ sz, Reads w w.heap.size sz none 0 [] := fun sz => ⟨by simp, fun h => absurd h (by omega)⟩
  refine ⟨rz 21, (fun e h => by cases h), rfl, rz 1, rz 1, rz 1, rz 1, ?_⟩
  constructor
  all_goals first
    | decide
    | (intro y h; cases h)
    | (constructor <;> decide)
theorem zeroM_ok : MsgOk zeroM.x := by
  constructor
  all_goals first
    | decide
    | (refine ⟨?_, ?_⟩ <;> first | decide | (intro y h; cases h) | (refine ⟨?_, ?_⟩ <;> first | decide | (intro y h; cases h)))
    | (constructor <;> decide)
theorem same_zero (w : World) : Calls Tryz.prog 11 #[.agg msgZ, .agg msgZ] w (fun e w' => e = .returned (.bool true) ∧ Below w.heap.size w w') := by
  have h := rsame_msg zeroM zeroM w (Lh (zeroM_in w)) (Lh zeroM_ok) (Lh (zeroM_in w)) (Lh zeroM_ok)
  rw [zeroM_cs, decide_eq_true rfl] at h
  exact h
theorem wp_load_blkN {P : Program} {op : Oper} {a : Act} {w : World} {K : Act → World → Prop} {Q : Exit → Act → World → Prop} (ty : TypeId) (x : Operand) (ho : op.op = .load ty x)
    (g : Nat) (t : TypeId) (cs : Array Value) (d : TypeDesc) (hx : a.eval x = .pointer (some ⟨g, 0, none⟩)) (hB : Blk w g t cs) (hu : P.underlying ty = some d) (hd : d.isRow = true) (hi : (P.info? ty).map (·.size) = some cs.size)
    (h : K (a.put op.dst (.agg cs)) w) : op.wp P a w K Q :=
  wp_load_mid ty x ho g 0 hx cs.toList d (fun j v hv => by rw [Nat.zero_add, hB.cell]; simpa using hv) hu hd (by simpa using hi) (by simpa using h)
theorem wplN {P : Program} {ops : Array Oper} {Q : Exit → Act → World → Prop} {rest : List Oper} {o : Oper} {a : Act} {w : World} (hw : Region.wanted o (yielded ops a.tmps) = true) (h : o.wp P a w (wpList P ops Q rest) Q) : wpList P ops Q (o :: rest) a w := by
  unfold wpList
  rw [if_pos hw]
  exact .inl h
set_option maxRecDepth 100000 in
set_option maxHeartbeats 16000000 in
theorem nobody_any (acs : Array Value) (hsz : acs.size = 30) (z : Int) (h28 : acs[28]? = some (.int .i64 z)) (A : Option Addr) (n c : Nat) (h29 : acs[29]? = some (.slice A n c)) (w : World) (hg : Hid (GE w)) :
    Calls Tryz.prog 3 #[.agg acs] w fun e w' => e = .returned (.bool true) ∧ Below w.heap.size w w' := by
  obtain ⟨ms, ems⟩ : ∃ ms : Array Value, ((acs.toList.drop 1).take 27).toArray = ms := ⟨_, rfl⟩
  have HMZ := Lh (show ms.size = 27 from by rw [← ems]; simp [hsz])
  obtain ⟨w0, ew0⟩ : ∃ w0, w.alloc (.cells acs 40) = w0 := ⟨_, rfl⟩
  have hb0 : Below w.heap.size w (w.alloc (.cells acs 40)) := (Below.refl _ _).alloc (Nat.le_refl _) _
  have hx0 := Blk.new w 40 acs
  rw [ew0] at hb0 hx0
  obtain ⟨b1, eb1⟩ : ∃ b, w.heap.size = b := ⟨_, rfl⟩
  rw [eb1] at hx0
  have EB1 := Lh eb1
  have HB0 := Lh hb0
  have HX0 := Lh hx0
  clear hb0 hx0
  go_enter Tryz.func3, Tryz.ntmps3
  go_upto_region 3 with (first | rw [ew0] | rw [eb1])
  clear ew0 eb1
  have hb1 : Below w0.heap.size w0 ((w0.alloc (.cells nZ 45)).alloc (.cells #[.pointer none, .pointer (some ⟨w0.heap.size, 0, none⟩)] 41)) := ((Below.refl _ _).alloc (Nat.le_refl _) _).alloc (by simp) _
  have hn1 := (Blk.new w0 45 nZ).alloc (.cells #[.pointer none, .pointer (some ⟨w0.heap.size, 0, none⟩)] 41)
  have hl1 := Blk.new (w0.alloc (.cells nZ 45)) 41 #[.pointer none, .pointer (some ⟨w0.heap.size, 0, none⟩)]
  have es : (w0.alloc (.cells nZ 45)).heap.size = w0.heap.size + 1 := by simp
  rw [es] at hl1
  obtain ⟨w1, ew1⟩ : ∃ w1, (w0.alloc (.cells nZ 45)).alloc (.cells #[.pointer none, .pointer (some ⟨w0.heap.size, 0, none⟩)] 41) = w1 := ⟨_, rfl⟩
  rw [ew1] at hb1 hn1 hl1
  have ew1' : (w0.alloc (.cells #[.bool false, .slice none 0 0, .slice none 0 0, .int .i64 0, .int .i64 0, .int .i64 0] 45)).alloc (.cells #[.pointer none, .pointer (some ⟨w0.heap.size, 0, none⟩)] 41) = w1 := ew1
  rw [ew1']
  obtain ⟨bn, ebn⟩ : ∃ b, w0.heap.size = b := ⟨_, rfl⟩
  rw [ebn] at hn1 hl1 ⊢
  have HN1 := Lh hn1
  have HL1 := Lh hl1
  have HB1 := Lh (HB0.out.trans (hb1.mono HB0.out.size))
  have HX1 := Lh (HX0.out.below hb1 HX0.out.lt)
  clear hb1 hn1 hl1 es ew1 ew1' ebn HB0 HX0
  have HI := Lh (fun W (h : Below w1.heap.size w1 W) => show W.cell? ⟨b1, 28, none⟩ = some (.int .i64 z) from ((HX1.out.below h HX1.out.lt).cell 28).trans h28)
  have HSL := Lh (fun W (h : Below w1.heap.size w1 W) => show W.cell? ⟨b1, 29, none⟩ = some (.slice A n c) from ((HX1.out.below h HX1.out.lt).cell 29).trans h29)
  have HMS := Lh (fun W (h : Below w1.heap.size w1 W) => show ∀ j v, ms.toList[j]? = some v → W.cell? ((⟨b1, 1, none⟩ : Addr).add j) = some v from fun j v hv => by
    rw [show (⟨b1, 1, none⟩ : Addr).add j = ⟨b1, 1 + j, none⟩ from by unfold Addr.add; split <;> simp_all, (HX1.out.below h HX1.out.lt).cell]
    rw [← ems] at hv
    simp only [List.getElem?_take, List.getElem?_drop] at hv
    split at hv
    · rw [← Array.getElem?_toList]; exact hv
    · cases hv)
  clear ems h28 h29 hsz
  go_wp2_with fail
  go_loopw [5, 6, 7, 8, 9, 10, 11, 12, 13] (fun vi _ _ _ _ _ _ _ _ wx => ∃ k : Nat, k ≤ 2 ∧ vi = .int .i64 k ∧ Hid (Below w1.heap.size w1 wx)) (fun vi _ _ _ _ _ _ _ _ _ => 2 - (intOf vi).toNat)
  case atStart => exact ⟨0, by omega, rfl, Lh (Below.refl _ _)⟩
  case round =>
    obtain ⟨k, hk, rfl, HBk⟩ := hrel
    rcases (show k = 0 ∨ k = 1 ∨ k = 2 from by omega) with rfl | rfl | rfl
    · obtain ⟨v, ev⟩ : ∃ v : Value, .pointer none = v := ⟨_, rfl⟩
      have HV := Lh (show Nob w1 v from .inl ev.symm)
      have x0 : wr.cell? ⟨bn + 1, 0, none⟩ = some v := (HBk.out.cell (p := ⟨bn + 1, 0, none⟩) HL1.out.lt).trans ((HL1.out.cell 0).trans (by rw [← ev]; rfl))
      clear ev
      have HB2 := HBk
      have HW := Lh (HB1.out.trans (HBk.out.mono HB1.out.size))
      have HTK := Lh (fun W (h : Below w1.heap.size w1 W) => take_nob v z W (Lh (HV.out.later h)))
      have HPK := Lh (fun W (h : Below w1.heap.size w1 W) => peek_nob v z W (Lh (HV.out.later h)))
      have HST := Lh (fun W (h : Below w1.heap.size w1 W) => stats_nob v W (Lh (HV.out.later h)))
      have HSE := Lh (fun W (h : Below w1.heap.size w1 W) => send_nob v ms W (Lh (HV.out.later h)))
      have HDB := Lh (fun W (h : Below w1.heap.size w1 W) => double_nob v z W (Lh (HV.out.later h)))
      have HPA := Lh (fun W (h : Below w1.heap.size w1 W) => part_nob v A n c W (Lh (HV.out.later h)))
      have HLE := Lh (fun W (h : Below w1.heap.size w1 W) => len_nob v W (Lh (HV.out.later h)))
      have a28 := HI.out wr HBk.out
      go_upto_region 8 with (first
        | (go_at_call 4; refine (HTK.out wr HBk.out).mono ?_; rintro e w2 ⟨rfl, hb⟩
           have K2 := Lh (HBk.out.trans (hb.mono HBk.out.size))
           have N2 := Lh (Blk.new w2 38 msgZ)
           clear hb)
        | (refine wpl_store_blk rfl 38 (.tmp 7) (.tmp 31) rfl w2.heap.size 38 msgZ msgZ rfl rfl N2.out rfl sizeMsg rfl ?_; intro w3 hB3 hO3))
      have K3 := Lh (K2.out.trans ((((Below.refl w2.heap.size w2).alloc (Nat.le_refl _) (.cells msgZ 38)).trans (hO3.out.below (Nat.le_refl _))).mono K2.out.size))
      have T7 := hB3
      obtain ⟨b7, e7⟩ : ∃ b, w2.heap.size = b := ⟨_, rfl⟩
      rw [e7] at T7 ⊢
      clear hB3 hO3 e7 N2 a28
      have a28 := HI.out w3 K3.out
      go_upto_region 9 with (first
        | (go_at_call 5; refine (HPK.out w3 K3.out).mono ?_; rintro e w4 ⟨rfl, hb⟩
           have K4 := Lh (K3.out.trans (hb.mono K3.out.size))
           have N4 := Lh (Blk.new w4 38 msgZ)
           have T74 := Lh (T7.out.below hb T7.out.lt)
           clear hb)
        | (refine wpl_store_blk rfl 38 (.tmp 9) (.tmp 38) rfl w4.heap.size 38 msgZ msgZ rfl rfl N4.out rfl sizeMsg rfl ?_; intro w5 hB5 hO5))
      have hb45 : Below w4.heap.size w4 w5 := ((Below.refl w4.heap.size w4).alloc (Nat.le_refl _) (.cells msgZ 38)).trans (hO5.out.below (Nat.le_refl _))
      have K5 := Lh (K4.out.trans (hb45.mono K4.out.size))
      have T75 := Lh (T74.out.below hb45 T74.out.lt)
      have T9 := hB5
      obtain ⟨b9, e9⟩ : ∃ b, w4.heap.size = b := ⟨_, rfl⟩
      rw [e9] at T9 ⊢
      clear hB5 hO5 e9 N4 a28 hb45
      go_upto_region 10 with (go_at_call 6; refine (HST.out w5 K5.out).mono ?_; rintro e w6 ⟨rfl, hb⟩)
      have K6 := Lh (K5.out.trans (hb.mono K5.out.size))
      have T76 := Lh (T75.out.below hb T75.out.lt)
      have T96 := Lh (T9.out.below hb T9.out.lt)
      clear hb
      have tk : True := trivial
      go_upto_region 5 with (first
        | (refine wpl_load_at rfl 38 (.tmp 47) rfl ⟨b1, 1, none⟩ ms.toList _ rfl (HMS.out w6 K6.out) Tryz.underlying38 rfl (by rw [Array.length_toList, HMZ.out]; exact sizeMsg) ?_)
        | (go_at_call 7; refine (HSE.out w6 K6.out).mono ?_; rintro e w7 ⟨rfl, hb⟩
           have K7 := Lh (K6.out.trans (hb.mono K6.out.size))
           have T77 := Lh (T76.out.below hb T76.out.lt)
           have T97 := Lh (T96.out.below hb T96.out.lt)
           have a28 := HI.out w7 K7.out
           clear hb)
        | (go_at_call 8; refine (HDB.out w7 K7.out).mono ?_; rintro e w8 ⟨rfl, hb⟩
           have K8 := Lh (K7.out.trans (hb.mono K7.out.size))
           have T78 := Lh (T77.out.below hb T77.out.lt)
           have T98 := Lh (T97.out.below hb T97.out.lt)
           have a29 := HSL.out w8 K8.out
           clear hb)
        | (go_at_call 9; refine (HPA.out w8 K8.out).mono ?_; rintro e w9 ⟨rfl, hb⟩
           have K9 := Lh (K8.out.trans (hb.mono K8.out.size))
           have T79 := Lh (T78.out.below hb T78.out.lt)
           have T99 := Lh (T98.out.below hb T98.out.lt)
           clear hb)
        | (go_at_call 10; refine (HLE.out w9 K9.out).mono ?_; rintro e wa ⟨rfl, hb⟩
           have KA := Lh (K9.out.trans (hb.mono K9.out.size))
           have T7A := Lh (T79.out.below hb T79.out.lt)
           have T9A := Lh (T99.out.below hb T99.out.lt)
           clear hb)
        | (refine wplN (by rfl) (wp_load_blkN 38 (.tmp 7) rfl b7 38 msgZ _ rfl T7A.out Tryz.underlying38 rfl sizeMsg ?_))
        | (have _t := tk; go_at_call 11; refine (same_zero wa).mono ?_; rintro e wb ⟨rfl, hb⟩
           have KB := Lh (KA.out.trans (hb.mono KA.out.size))
           have T9B := Lh (T9A.out.below hb T9A.out.lt)
           clear hb tk _t)
        | (refine wplN (by rfl) (wp_load_blkN 38 (.tmp 9) rfl b9 38 msgZ _ rfl T9B.out Tryz.underlying38 rfl sizeMsg ?_))
        | (go_at_call 11; refine (same_zero wb).mono ?_; rintro e wc' ⟨rfl, hb⟩
           have KC := Lh (KB.out.trans (hb.mono KB.out.size))
           clear hb))
      go_wp2
      exact ⟨⟨1, by omega, rfl, KC⟩, by simp [intOf]⟩
    · obtain ⟨v, ev⟩ : ∃ v : Value, .pointer (some ⟨bn, 0, none⟩) = v := ⟨_, rfl⟩
      have HV := Lh (show Nob w1 v from .inr ⟨bn, ev.symm, HN1.out⟩)
      have x0 : wr.cell? ⟨bn + 1, 1, none⟩ = some v := (HBk.out.cell (p := ⟨bn + 1, 1, none⟩) HL1.out.lt).trans ((HL1.out.cell 1).trans (by rw [← ev]; rfl))
      clear ev
      have HB2 := HBk
      have HW := Lh (HB1.out.trans (HBk.out.mono HB1.out.size))
      have HTK := Lh (fun W (h : Below w1.heap.size w1 W) => take_nob v z W (Lh (HV.out.later h)))
      have HPK := Lh (fun W (h : Below w1.heap.size w1 W) => peek_nob v z W (Lh (HV.out.later h)))
      have HST := Lh (fun W (h : Below w1.heap.size w1 W) => stats_nob v W (Lh (HV.out.later h)))
      have HSE := Lh (fun W (h : Below w1.heap.size w1 W) => send_nob v ms W (Lh (HV.out.later h)))
      have HDB := Lh (fun W (h : Below w1.heap.size w1 W) => double_nob v z W (Lh (HV.out.later h)))
      have HPA := Lh (fun W (h : Below w1.heap.size w1 W) => part_nob v A n c W (Lh (HV.out.later h)))
      have HLE := Lh (fun W (h : Below w1.heap.size w1 W) => len_nob v W (Lh (HV.out.later h)))
      have a28 := HI.out wr HBk.out
      go_upto_region 8 with (first
        | (go_at_call 4; refine (HTK.out wr HBk.out).mono ?_; rintro e w2 ⟨rfl, hb⟩
           have K2 := Lh (HBk.out.trans (hb.mono HBk.out.size))
           have N2 := Lh (Blk.new w2 38 msgZ)
           clear hb)
        | (refine wpl_store_blk rfl 38 (.tmp 7) (.tmp 31) rfl w2.heap.size 38 msgZ msgZ rfl rfl N2.out rfl sizeMsg rfl ?_; intro w3 hB3 hO3))
      have K3 := Lh (K2.out.trans ((((Below.refl w2.heap.size w2).alloc (Nat.le_refl _) (.cells msgZ 38)).trans (hO3.out.below (Nat.le_refl _))).mono K2.out.size))
      have T7 := hB3
      obtain ⟨b7, e7⟩ : ∃ b, w2.heap.size = b := ⟨_, rfl⟩
      rw [e7] at T7 ⊢
      clear hB3 hO3 e7 N2 a28
      have a28 := HI.out w3 K3.out
      go_upto_region 9 with (first
        | (go_at_call 5; refine (HPK.out w3 K3.out).mono ?_; rintro e w4 ⟨rfl, hb⟩
           have K4 := Lh (K3.out.trans (hb.mono K3.out.size))
           have N4 := Lh (Blk.new w4 38 msgZ)
           have T74 := Lh (T7.out.below hb T7.out.lt)
           clear hb)
        | (refine wpl_store_blk rfl 38 (.tmp 9) (.tmp 38) rfl w4.heap.size 38 msgZ msgZ rfl rfl N4.out rfl sizeMsg rfl ?_; intro w5 hB5 hO5))
      have hb45 : Below w4.heap.size w4 w5 := ((Below.refl w4.heap.size w4).alloc (Nat.le_refl _) (.cells msgZ 38)).trans (hO5.out.below (Nat.le_refl _))
      have K5 := Lh (K4.out.trans (hb45.mono K4.out.size))
      have T75 := Lh (T74.out.below hb45 T74.out.lt)
      have T9 := hB5
      obtain ⟨b9, e9⟩ : ∃ b, w4.heap.size = b := ⟨_, rfl⟩
      rw [e9] at T9 ⊢
      clear hB5 hO5 e9 N4 a28 hb45
      go_upto_region 10 with (go_at_call 6; refine (HST.out w5 K5.out).mono ?_; rintro e w6 ⟨rfl, hb⟩)
      have K6 := Lh (K5.out.trans (hb.mono K5.out.size))
      have T76 := Lh (T75.out.below hb T75.out.lt)
      have T96 := Lh (T9.out.below hb T9.out.lt)
      clear hb
      have tk : True := trivial
      go_upto_region 5 with (first
        | (refine wpl_load_at rfl 38 (.tmp 47) rfl ⟨b1, 1, none⟩ ms.toList _ rfl (HMS.out w6 K6.out) Tryz.underlying38 rfl (by rw [Array.length_toList, HMZ.out]; exact sizeMsg) ?_)
        | (go_at_call 7; refine (HSE.out w6 K6.out).mono ?_; rintro e w7 ⟨rfl, hb⟩
           have K7 := Lh (K6.out.trans (hb.mono K6.out.size))
           have T77 := Lh (T76.out.below hb T76.out.lt)
           have T97 := Lh (T96.out.below hb T96.out.lt)
           have a28 := HI.out w7 K7.out
           clear hb)
        | (go_at_call 8; refine (HDB.out w7 K7.out).mono ?_; rintro e w8 ⟨rfl, hb⟩
           have K8 := Lh (K7.out.trans (hb.mono K7.out.size))
           have T78 := Lh (T77.out.below hb T77.out.lt)
           have T98 := Lh (T97.out.below hb T97.out.lt)
           have a29 := HSL.out w8 K8.out
           clear hb)
        | (go_at_call 9; refine (HPA.out w8 K8.out).mono ?_; rintro e w9 ⟨rfl, hb⟩
           have K9 := Lh (K8.out.trans (hb.mono K8.out.size))
           have T79 := Lh (T78.out.below hb T78.out.lt)
           have T99 := Lh (T98.out.below hb T98.out.lt)
           clear hb)
        | (go_at_call 10; refine (HLE.out w9 K9.out).mono ?_; rintro e wa ⟨rfl, hb⟩
           have KA := Lh (K9.out.trans (hb.mono K9.out.size))
           have T7A := Lh (T79.out.below hb T79.out.lt)
           have T9A := Lh (T99.out.below hb T99.out.lt)
           clear hb)
        | (refine wplN (by rfl) (wp_load_blkN 38 (.tmp 7) rfl b7 38 msgZ _ rfl T7A.out Tryz.underlying38 rfl sizeMsg ?_))
        | (have _t := tk; go_at_call 11; refine (same_zero wa).mono ?_; rintro e wb ⟨rfl, hb⟩
           have KB := Lh (KA.out.trans (hb.mono KA.out.size))
           have T9B := Lh (T9A.out.below hb T9A.out.lt)
           clear hb tk _t)
        | (refine wplN (by rfl) (wp_load_blkN 38 (.tmp 9) rfl b9 38 msgZ _ rfl T9B.out Tryz.underlying38 rfl sizeMsg ?_))
        | (go_at_call 11; refine (same_zero wb).mono ?_; rintro e wc' ⟨rfl, hb⟩
           have KC := Lh (KB.out.trans (hb.mono KB.out.size))
           clear hb))
      go_wp2
      exact ⟨⟨2, by omega, rfl, KC⟩, by simp [intOf]⟩
    · have HW := Lh (HB1.out.trans (HBk.out.mono HB1.out.size))
      go_wp2_with (go_at_call 12; refine (nheads_any wr (Lh (hg.out.later HW.out))).mono ?_; rintro e w9 ⟨rfl, hb9⟩; have HB9 := Lh hb9; clear hb9)
      go_ret
      have hfin := HW.out.trans (HB9.out.mono HW.out.size)
      first | exact ⟨rfl, hfin⟩ | (rw [EB1.out] at hfin; exact ⟨rfl, hfin⟩)
theorem cell_intN {P : Program} {w : World} {r : Reach} {base : Nat} {t : TypeId} {v : Value} {k : IntKind} (ht : P.underlying t = some (.int k)) (h : Cell.okWide P w r base t v) : ∃ n, v = .int k n := by
  simp only [ht, Cell.okWide] at h
  cases v <;> simp_all [Cell.ok]
theorem cell_sliceN {P : Program} {w : World} {r : Reach} {base : Nat} {t e : TypeId} {v : Value} (ht : P.underlying t = some (.slice e)) (h : Cell.okWide P w r base t v) : ∃ A n c, v = .slice A n c := by
  simp only [ht, Cell.okWide] at h
  cases v <;> simp_all [Cell.ok]
set_option maxRecDepth 100000 in
theorem act_cells {w : World} {base : Nat} {v : Value} (h : Value.okWide Tryz.prog w .any base 40 v) :
    ∃ (acs : Array Value) (z : Int) (A : Option Addr) (n c : Nat), v = .agg acs ∧ acs.size = 30 ∧ acs[28]? = some (.int .i64 z) ∧ acs[29]? = some (.slice A n c) := by
  simp only [Value.okWide, Tryz.underlying40] at h
  obtain ⟨ms, rfl, hsz, ts, hts, _, hall⟩ := h
  have k0 : Tryz.prog.cellsOf 40 = 30 := by kernel_rfl
  have k1 : (Tryz.prog.cellTypes Tryz.prog.depth 40).map (fun l => (l.length, l[28]?, l[29]?)) = some (30, some 3, some 25) := by kernel_rfl
  rw [hts] at k1
  simp only [Option.map_some, Option.some.injEq, Prod.mk.injEq] at k1
  obtain ⟨l0, l1, l2⟩ := k1
  rw [k0] at hsz
  have get : ∀ i, i < 30 → ∃ v, ms[i]? = some v := fun i hi => ⟨_, Array.getElem?_eq_getElem (by omega)⟩
  obtain ⟨v0, g0⟩ := get 28 (by omega)
  obtain ⟨v1, g1⟩ := get 29 (by omega)
  obtain ⟨u0, e0, c0⟩ := hall 28 v0 g0
  obtain ⟨u1, e1, c1⟩ := hall 29 v1 g1
  rw [l0] at e0 e1
  have r0 : u0 = 3 := Option.some.inj (e0.symm.trans l1)
  have r1 : u1 = 25 := Option.some.inj (e1.symm.trans l2)
  subst r0 r1
  obtain ⟨z, rfl⟩ := cell_intN Tryz.underlying3 c0
  obtain ⟨A, n, c, rfl⟩ := cell_sliceN Tryz.underlying25 c1
  exact ⟨ms, z, A, n, c, rfl, hsz, g0, g1⟩
set_option maxRecDepth 100000 in
theorem walk_NetNobody {H : Type} {enc : TypeId × Value → H} (W : World) (hg : Hid (GE W)) {base : Nat} (v : Value) (d : DataW H) (p : List MemPlace) (h : DataW.Trod enc Tryz.prog W 0 (fun _ => true) true 40 v d p) (hok : Value.okWide Tryz.prog W .any base 40 v) :
    Calls Tryz.prog 3 #[v] W fun e W' => e = .returned (.bool true) ∧ Below W.heap.size W W' := by
  obtain ⟨acs, z, A, n, c, rfl, hsz, h28, h29⟩ := act_cells hok
  exact nobody_any acs hsz z h28 A n c h29 W hg
namespace netNobody
open Go.ChangeShapes Go.WideShapes Go.ChangeAt Go.RowKit
open Go.ChangeMaps (open_string shut_string)
set_option linter.unusedVariables false
theorem own : ownKnob Tryz.prog.godebug = none := by kernel_rfl
theorem laidOut : laidOutB Tryz.prog = true := by kernel_rfl
set_option maxRecDepth 100000 in
theorem contract (H : Type) (enc : TypeId × Value → H) (W : World) (base : Nat) (args : Array Value) (ds gs : List (DataW H)) (before : List MemPlace)
    (hval0 : ∀ (j : Nat) t v, Tryz.f3.params[j]? = some t → args[j]? = some v → Value.okWide Tryz.prog W .any base t v)
    (hW : DataW.Whole enc Tryz.prog Tryz.f3.params.toList Rows.netNobodySpec.vars false W args.toList ds gs before) (hL : laidMetH Tryz.prog laid0 W) :
    Calls Tryz.prog 3 args W fun e W' => ∃ v, e = .returned v ∧ Rows.netNobodySpec.post enc Tryz.prog Tryz.f3 false true false false W args v W' := by
  have hval : ∀ (j : Nat) t v, Tryz.f3.params[j]? = some t → args[j]? = some v → Value.okWide Tryz.prog W .any base t v := hval0
  have hW' := hW
  obtain ⟨p, q, hA0, hV, rfl, hfz, hnd⟩ := hW
  have hA : DataW.TrodAll enc Tryz.prog W 0 (fun _ => true) true Tryz.f3.params.toList args.toList ds p := hA0
  rw [Tryz.params3] at hA hval
  obtain ⟨v0, vs0, d0, ds0, p0, q0, hargs, rfl, rfl, h0, r0⟩ := trodAll_cons hA
  obtain ⟨rfl, rfl, rfl⟩ := trodAll_nil r0
  obtain rfl : args = #[v0] := by cases args; simp_all
  obtain ⟨rfl, rfl⟩ := trodVars_none hV
  have k0 := h0
  have lt0 : ∀ x ∈ p0, x.block < W.heap.size := by obtain ⟨m, hm⟩ := k0; exact DataW.trod_lt m _ _ _ hm
  clear hA0 hval0
  refine (walk_NetNobody W (Lh (ge_of_laid hL)) v0 d0 p0 h0 (hval 0 40 v0 rfl rfl)).mono fun e W' ⟨he, bel⟩ => ?_
  subst he
  exact ⟨_, rfl, _, _, _, [], _, [], hW', trodAll_mk1 (shut_bool Tryz.underlying4 _), (trodAll_cons_mk (Below.trod laidOut (by kernel_rfl) (of_decide_eq_true (by kernel_rfl)) k0 bel lt0) trodAll_mk0), rfl, bel.frame _, fun h => by cases h⟩
theorem reads (os : Os) {H : Type} (enc : TypeId × Value → H) : ∃ places, DataW.whole enc Tryz.prog ((laidWorld os).forCall (fun _ _ => 0) ⟨#[], #[.agg #[.int .i64 0, .int .i64 0, .int .i64 0, .int .i64 0, .int .u64 0, .int .u64 0, .int .u64 0, .int .u64 0, .int .u64 0, .bool false, .bool false, .slice none 0 0, .slice none 0 0, .slice none 0 0, .int .u64 0, .int .i64 0, .int .u64 0, .int .i64 0, .int .i64 0, .int .i64 0, .int .u32 0, .slice none 0 0, .int .u64 0, .int .u64 0, .int .i64 0, .string ⟨#[]⟩, .int .i64 0, .slice none 0 0, .int .i64 0, .slice none 0 0]], []⟩).memory Tryz.f3.params.toList Rows.netNobodySpec.vars false (#[.agg #[.int .i64 0, .int .i64 0, .int .i64 0, .int .i64 0, .int .u64 0, .int .u64 0, .int .u64 0, .int .u64 0, .int .u64 0, .bool false, .bool false, .slice none 0 0, .slice none 0 0, .slice none 0 0, .int .u64 0, .int .i64 0, .int .u64 0, .int .i64 0, .int .i64 0, .int .i64 0, .int .u32 0, .slice none 0 0, .int .u64 0, .int .u64 0, .int .i64 0, .string ⟨#[]⟩, .int .i64 0, .slice none 0 0, .int .i64 0, .slice none 0 0]] : Array Value).toList 8 = some ([.agg [.lit (.int .i64 0), .agg [.lit (.int .i64 0), .lit (.int .i64 0), .lit (.int .i64 0), .lit (.int .u64 0), .lit (.int .u64 0), .lit (.int .u64 0), .lit (.int .u64 0), .lit (.int .u64 0), .lit (.bool false), .lit (.bool false), .nil, .agg [.nil, .nil], .agg [.agg [.lit (.int .u64 0), .lit (.int .i64 0), .lit (.int .u64 0)], .lit (.int .i64 0), .lit (.int .i64 0), .lit (.int .i64 0), .lit (.int .u32 0)], .nil, .lit (.int .u64 0), .lit (.int .u64 0), .lit (.int .i64 0), .lit (.string []), .lit (.int .i64 0), .nil], .lit (.int .i64 0), .nil]], [], places) :=
  ⟨[], by kernel_rfl⟩
set_option maxRecDepth 100000 in
theorem lifted (os : Os) (started : os.Started) (H : Type) (enc : TypeId × Value → H) (F : Stop.Interp) :
    ReturnsInHanded {} Tryz.checked os 3 .any ((OpenSpec.ofChange Rows.netNobodySpec).preRow enc Tryz.prog Tryz.f3 Rows.netNobodyRow.domain false Rows.netNobodyRow.laid) (((OpenSpec.ofChange Rows.netNobodySpec).at F).post enc Tryz.prog Tryz.f3 false true false false) := by
  obtain ⟨places, hx⟩ := reads os enc
  refine returnsInHanded_of_row (C := Tryz.checked) (s := OpenSpec.ofChange Rows.netNobodySpec) own started (by kernel_rfl) Tryz.func3
    (witness_row_at (enc := enc) (C := Tryz.checked) false (laidWorld os) #[.agg #[.int .i64 0, .int .i64 0, .int .i64 0, .int .i64 0, .int .u64 0, .int .u64 0, .int .u64 0, .int .u64 0, .int .u64 0, .bool false, .bool false, .slice none 0 0, .slice none 0 0, .slice none 0 0, .int .u64 0, .int .i64 0, .int .u64 0, .int .i64 0, .int .i64 0, .int .i64 0, .int .u32 0, .slice none 0 0, .int .u64 0, .int .u64 0, .int .i64 0, .string ⟨#[]⟩, .int .i64 0, .slice none 0 0, .int .i64 0, .slice none 0 0]] rfl (by kernel_rfl) (by kernel_rfl) (by kernel_rfl)
      (OpenSpec.preRow_of_cond 8 hx (by kernel_rfl) (fun k hk => by cases hk) (by kernel_rfl) (laid_met os #[.agg #[.int .i64 0, .int .i64 0, .int .i64 0, .int .i64 0, .int .u64 0, .int .u64 0, .int .u64 0, .int .u64 0, .int .u64 0, .bool false, .bool false, .slice none 0 0, .slice none 0 0, .slice none 0 0, .int .u64 0, .int .i64 0, .int .u64 0, .int .i64 0, .int .i64 0, .int .i64 0, .int .u32 0, .slice none 0 0, .int .u64 0, .int .u64 0, .int .i64 0, .string ⟨#[]⟩, .int .i64 0, .slice none 0 0, .int .i64 0, .slice none 0 0]]))) ?_
  intro W base args ds gs before hval hW _ _ _ hL _ _
  exact contract H enc W base args ds gs before hval hW hL
theorem over : Rows.NetNobodySaid :=
  OpenClaim.holds_of_cond 3 Tryz.f3 rfl rfl rfl rfl rfl rfl rfl ⟨rfl, rfl, rfl, rfl, rfl⟩ rfl rfl rfl rfl rfl (by kernel_rfl) Tryz.func3 (by kernel_rfl)
    (of_decide_eq_true (by kernel_rfl)) (by unfold Func.isWrapper; first | (rw [if_pos (by decide +kernel)]; kernel_rfl) | (rw [if_neg (by decide +kernel)]; exact ⟨rfl, rfl⟩))
    (fun os started H enc _ F => by rw [OpenClaim.pre_eq_preRow]; exact lifted os started H enc F)
theorem plain (f : FuncId) (fn : Func) (hf : Tryz.pinned.checked.prog.funcNamed "buttress/buttresslaw16.NetNobody" = some f) (hfn : Tryz.pinned.checked.prog.funcs[f]? = some fn) :
    true = Tryz.pinned.checked.prog.looks [] ∧ ∀ (j : Nat) t, fn.params[j]? = some t → Tryz.pinned.checked.prog.wantsStandIn t = false := by
  obtain rfl : f = 3 := Option.some.inj ((show Tryz.prog.funcNamed "buttress/buttresslaw16.NetNobody" = some 3 by kernel_rfl).symm.trans hf) |>.symm
  obtain rfl : fn = Tryz.f3 := (Option.some.inj (Tryz.func3.symm.trans hfn)).symm
  refine ⟨by kernel_rfl, fun j t ht => ?_⟩
  rw [Tryz.params3] at ht
  have hm := Array.mem_of_getElem? ht
  have hall : (#[40] : Array TypeId).all (fun t => Tryz.prog.wantsStandIn t == false) = true := by kernel_rfl
  exact eq_of_beq (Array.all_eq_true_iff_forall_mem.1 hall t hm)
theorem proved : Rows.NetNobodyCardSaid :=
  Claim7.holds_tied_plain_at .later [] _ _ _ _ over (fun _ h => by cases h) (by kernel_rfl) (fun _ h => by cases h) netNobody_row_tie rfl ⟨rfl, rfl⟩ (by kernel_rfl) rfl plain (by kernel_rfl)
end netNobody
end Go.Proofs.YtijdbdenmcjmmaaGreatDoor
