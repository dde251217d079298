/-
  PackReads holds for every bytes and place: what they are read as, or that they are no such thing, is the same for the program and the reference; what is read its Put writes.
-/
import Derived.Test.YthgiafjiemiifaaPaL2
import Derived.Test.YthgiafjiemiifaaLib2
import Derived.Deep.RegionHeld3
import Derived.Deep.Cut
namespace Go.Proofs.Ythgiafjiemiifaa
open Go.RowKit OctMath
set_option linter.unusedVariables false
theorem undrew {B : Nat} {a w : World} (h : Below B a.drew w) : Below B a w := ⟨h.os, h.tape, h.output, h.size, h.block⟩
set_option maxRecDepth 100000 in
set_option maxHeartbeats 16000000 in
theorem reads_any (A : Option Addr) (n cap : Nat) (bs : List Nat) (at_ : Int) (w : World) (HI0 : Hid (InB w A n cap bs)) :
    Calls Try.prog 3 #[.slice A n cap, .int .i64 at_] w fun e w' => e = .returned (.bool true) ∧ Below w.heap.size w w' := by
  have HG1 := Lib.hid (fun h => resOf_good (wr_hd HI0.out.byt) pHd_pos HI0.out.len (z := hd0) (n := n) (at_ := at_) h)
  have XU1 := Lib.hid (fun W hI => xu_header A n cap bs at_ W hI)
  have RU1 := Lib.hid (fun W hI => ru_header A n cap bs at_ W hI)
  generalize resOf (rHd bs) hd0 n at_ = R at *
  obtain ⟨x1, q1, e1⟩ := R
  simp only at HG1 XU1 RU1
  have HG2 := Lib.hid (fun h => resOf_good (wr_conf HI0.out.byt) pConf_pos HI0.out.len (z := (([] : List Int), ([] : List Int))) (n := n) (at_ := at_) h)
  have XU2 := Lib.hid (fun W hI => xu_conf A n cap bs at_ W hI)
  have RU2 := Lib.hid (fun W hI => ru_conf A n cap bs at_ W hI)
  generalize resOf (rConf bs) (([] : List Int), ([] : List Int)) n at_ = R at *
  obtain ⟨x2, q2, e2⟩ := R
  simp only at HG2 XU2 RU2
  have HG3 := Lib.hid (fun h => resOf_good (wr_map HI0.out.byt) pMap_pos HI0.out.len (z := (0, ([] : List (Int × Int)))) (n := n) (at_ := at_) h)
  have XU3 := Lib.hid (fun W hI => xu_map A n cap bs at_ W hI)
  have RU3 := Lib.hid (fun W hI => ru_map A n cap bs at_ W hI)
  generalize resOf (rMap bs) (0, ([] : List (Int × Int))) n at_ = R at *
  obtain ⟨x3, q3, e3⟩ := R
  simp only at HG3 XU3 RU3
  have HG4 := Lib.hid (fun h => resOf_good (wr_cmd HI0.out.byt) pCmd_pos HI0.out.len (z := cmd0) (n := n) (at_ := at_) h)
  have XU4 := Lib.hid (fun W hI => xu_cmd A n cap bs at_ W hI)
  have RU4 := Lib.hid (fun W hI => ru_cmd A n cap bs at_ W hI)
  generalize resOf (rCmd bs) cmd0 n at_ = R at *
  obtain ⟨x4, q4, e4⟩ := R
  simp only at HG4 XU4 RU4
  go_enter Try.func3, Try.ntmps3
  go_wp2_with fail
  have HB := Lib.hid (Below.refl w.heap.size w)
  refine (XU1.out w (Lib.hid (HI0.out.later HB.out))).mono ?_
  rintro e w1a ⟨hb, v, rfl, ⟨rfl, hok⟩⟩
  try unfold hdCs
  have HB := Lib.hid (HB.out.trans (hb.mono HB.out.size))
  have HOK := Lib.hid (hok : HdOk x1)
  clear hb hok
  go_wp2_with (refine wpl_store_blk rfl 28 (.tmp 5) (.tmp 33) rfl w1a.heap.size 28 #[.int .u64 0, .int .i64 0, .int .u64 0, .int .i64 0, .int .i64 0, .int .i64 0, .int .u32 0] #[.int .u64 (x1.id.ver : Int), .int .i64 x1.id.idx, .int .u64 (x1.id.ep : Int), .int .i64 x1.k, .int .i64 x1.n, .int .i64 x1.size, .int .u32 (x1.sum : Int)] rfl rfl (Blk.new w1a _ _) rfl Try.sizeH rfl ?_; intro w1b hB1 hO1)
  have hs : Below w1a.heap.size w1a w1b := ((Below.refl _ _).alloc (Nat.le_refl _) _).trans (hO1.out.below (Nat.le_refl _))
  have HB := Lib.hid (HB.out.trans (hs.mono HB.out.size))
  clear hs hO1
  refine (RU1.out w1b (Lib.hid (HI0.out.later HB.out))).mono ?_
  rintro e w1c ⟨hb, v, rfl, rfl⟩
  try unfold hdCs
  have HX := Lib.hid (hB1.out.below hb hB1.out.lt)
  have HB := Lib.hid (HB.out.trans (hb.mono HB.out.size))
  clear hb hB1
  go_upto_region 5 with (first
    | (refine wpl_store_blk rfl 28 (.tmp 8) (.tmp 40) rfl w1c.heap.size 28 #[.int .u64 0, .int .i64 0, .int .u64 0, .int .i64 0, .int .i64 0, .int .i64 0, .int .u32 0] #[.int .u64 (x1.id.ver : Int), .int .i64 x1.id.idx, .int .u64 (x1.id.ep : Int), .int .i64 x1.k, .int .i64 x1.n, .int .i64 x1.size, .int .u32 (x1.sum : Int)] rfl rfl (Blk.new w1c _ _) rfl Try.sizeH rfl ?_; intro w1d hB2 hO2
       have hs : Below w1c.heap.size w1c w1d := ((Below.refl _ _).alloc (Nat.le_refl _) _).trans (hO2.out.below (Nat.le_refl _))
       have HB := Lib.hid (HB.out.trans (hs.mono HB.out.size))
       have HX := Lib.hid (HX.out.below hs HX.out.lt)
       have f0 := HX.out.cell 0
       have g0 := hB2.out.cell 0
       have f1 := HX.out.cell 1
       have g1 := hB2.out.cell 1
       have f2 := HX.out.cell 2
       have g2 := hB2.out.cell 2
       have f3 := HX.out.cell 3
       have g3 := hB2.out.cell 3
       have f4 := HX.out.cell 4
       have g4 := hB2.out.cell 4
       have f5 := HX.out.cell 5
       have g5 := hB2.out.cell 5
       have f6 := HX.out.cell 6
       have g6 := hB2.out.cell 6
       clear hs hO2))
  clear g0 g1 g2 g3 g4 g5 g6
  go_cut [78] from 56 (fun s78 wx => s78 = .bool false ∧ Hid (Below w.heap.size w wx))
  case first =>
    by_cases he : e1 = 0
    · as_aux_lemma =>
      subst he
      obtain ⟨p, q, hp, hq, h1, h2, h3⟩ := HG1.out rfl
      subst hp
      subst hq
      have hy := HI0.out.byt
      have hby : Byt (pHd x1) := by rw [← h3]; exact (hy.drop _).take _
      obtain ⟨ys, eys⟩ : ∃ ys, pHd x1 = ys := ⟨_, rfl⟩
      obtain ⟨A3, s1, s2⟩ := slice_mid Try.underlying22 Try.infoU8 HI0.out.rd p q (by omega) (by omega) HI0.out.le
      rw [h3, eys] at s2
      rw [eys] at hby
      have HPU := Lib.hid (fun W  => put_header none 0 0 [] x1 W (Lib.hid Reads.none_)  HOK.out (by omega))
      rw [List.nil_append, eys] at HPU
      have HBY := Lib.hid hby
      have S2 := Lib.hid s2
      have D1 := Lib.hid (And.intro h1 h2)
      have dd1 : decide ((q : Int) ≤ (p : Int)) = false := decide_eq_false (by omega)
      have dd2 : decide (q ≤ p) = false := decide_eq_false (by omega)
      have dd3 : decide ((q : Int) > (n : Int)) = false := decide_eq_false (by omega)
      have dd4 : decide (n < q) = false := decide_eq_false (by omega)
      have dd5 : decide ((n : Int) < (q : Int)) = false := decide_eq_false (by omega)
      clear h1 h2 h3 hy hby s2 eys
      go_region_held3 (fun w' => w'.cell? ⟨w1a.heap.size, 0, none⟩ = some (.int .u64 (x1.id.ver : Int)) ∧ w'.cell? ⟨w1a.heap.size, 1, none⟩ = some (.int .i64 x1.id.idx) ∧ w'.cell? ⟨w1a.heap.size, 2, none⟩ = some (.int .u64 (x1.id.ep : Int)) ∧ w'.cell? ⟨w1a.heap.size, 3, none⟩ = some (.int .i64 x1.k) ∧ w'.cell? ⟨w1a.heap.size, 4, none⟩ = some (.int .i64 x1.n) ∧ w'.cell? ⟨w1a.heap.size, 5, none⟩ = some (.int .i64 x1.size) ∧ w'.cell? ⟨w1a.heap.size, 6, none⟩ = some (.int .u32 (x1.sum : Int))) (first | exact ⟨f0, f1, f2, f3, f4, f5, f6⟩ | exact ⟨z0, z1, z2, z3, z4, z5, z6⟩ | fail) (first
        | (go_at_call 8; refine (HPU.out _ ).mono ?_; rintro e wf ⟨A5, c5, rfl, r5, hb5⟩; have R5 := Lib.hid r5; have hb6 : Below w1d.heap.size w1d wf := undrew hb5; have HX2 := Lib.hid (HX.out.below hb6 HX.out.lt); have z0 := HX2.out.cell 0; have z1 := HX2.out.cell 1; have z2 := HX2.out.cell 2; have z3 := HX2.out.cell 3; have z4 := HX2.out.cell 4; have z5 := HX2.out.cell 5; have z6 := HX2.out.cell 6; have HB2 := Lib.hid (HB.out.trans (hb6.mono HB.out.size)); clear r5 hb5 hb6)
        | (go_at_call 7; refine (same_any A5 A3 c5 _ _ _ ys ys _ HBY.out HBY.out R5.out ((S2.out _ (HI0.out.rd.below HB2.out)).more HB2.out.size)).mono ?_; rintro e w' ⟨rfl, rfl⟩))
      go_wp2_with fail
      go_meet
      case rel => exact ⟨rfl, HB2⟩
    · as_aux_lemma =>
      have dd : (e1 == 0) = false := by rw [beq_eq_false_iff_ne]; exact he
      clear he
      refine wp_region_class (fun w' => Hid (Below w.heap.size w w')) (by kernel_rfl) (by kernel_rfl) (Lib.hid HB.out.drew) ?_
      repeat (first
        | go_big_quiet_skip
        | (go_big_quiet_want; go_big_quiet_op; first
          | go_big_quiet_on
          | (refine ⟨_, fun _ _ => rfl, ?_⟩; go_big_quiet_on)))
      refine wpQuiet_nil ?_
      intro w' hw'
      go_wp2_with fail
      go_meet
      case rel => exact ⟨rfl, hw'⟩
  case rest =>
  as_aux_lemma =>
  obtain ⟨rfl, hbx⟩ := hcut
  have HB := hbx
  clear hbx HX HOK f0 f1 f2 f3 f4 f5 f6
  go_wp2_with fail
  refine (XU2.out wc (Lib.hid (HI0.out.later HB.out))).mono ?_
  rintro e w2a ⟨hb, v, rfl, ⟨A1, c1, A2, c2, rfl, l1, l2, hok1, hok2⟩⟩
  have HB := Lib.hid (HB.out.trans (hb.mono HB.out.size))
  have HOK := Lib.hid (⟨hok1, hok2⟩ : IntsOk x2.1 ∧ IntsOk x2.2)
  have K1 := Lib.hid l1.rd
  have K2 := Lib.hid l2.rd
  clear hb hok1 hok2 l1 l2
  go_wp2_with (refine wpl_store_blk rfl 38 (.tmp 11) (.tmp 83) rfl w2a.heap.size 38 #[.slice none 0 0, .slice none 0 0] #[.slice A1 x2.1.length c1, .slice A2 x2.2.length c2] rfl rfl (Blk.new w2a _ _) rfl Try.sizeF rfl ?_; intro w2b hB1 hO1)
  have hs : Below w2a.heap.size w2a w2b := ((Below.refl _ _).alloc (Nat.le_refl _) _).trans (hO1.out.below (Nat.le_refl _))
  have HB := Lib.hid (HB.out.trans (hs.mono HB.out.size))
  have K1 := Lib.hid (K1.out.later hs)
  have K2 := Lib.hid (K2.out.later hs)
  clear hs hO1
  refine (RU2.out w2b (Lib.hid (HI0.out.later HB.out))).mono ?_
  rintro e w2c ⟨hb, v, rfl, ⟨B1, d1, B2, d2, rfl, m1, m2⟩⟩
  have HX := Lib.hid (hB1.out.below hb hB1.out.lt)
  have HB := Lib.hid (HB.out.trans (hb.mono HB.out.size))
  have K1 := Lib.hid (K1.out.later hb)
  have M1 := Lib.hid m1.rd
  have K2 := Lib.hid (K2.out.later hb)
  have M2 := Lib.hid m2.rd
  clear hb hB1 m1 m2
  go_upto_region 11 with (first
    | (refine wpl_store_blk rfl 38 (.tmp 14) (.tmp 90) rfl w2c.heap.size 38 #[.slice none 0 0, .slice none 0 0] #[.slice B1 x2.1.length d1, .slice B2 x2.2.length d2] rfl rfl (Blk.new w2c _ _) rfl Try.sizeF rfl ?_; intro w2d hB2 hO2
       have hs : Below w2c.heap.size w2c w2d := ((Below.refl _ _).alloc (Nat.le_refl _) _).trans (hO2.out.below (Nat.le_refl _))
       have HB := Lib.hid (HB.out.trans (hs.mono HB.out.size))
       have HX := Lib.hid (HX.out.below hs HX.out.lt)
       have K1 := Lib.hid (K1.out.later hs)
       have M1 := Lib.hid (M1.out.later hs)
       have K2 := Lib.hid (K2.out.later hs)
       have M2 := Lib.hid (M2.out.later hs)
       have f0 := HX.out.cell 0
       have g0 := hB2.out.cell 0
       have f1 := HX.out.cell 1
       have g1 := hB2.out.cell 1
       clear hs hO2)
    | (go_at_call 11; refine (same_conf A1 c1 A2 c2 x2 B1 d1 B2 d2 w2d K1 K2 M1 M2 HOK.out).mono ?_; rintro e w2e ⟨rfl, hb⟩
       have HB := Lib.hid (HB.out.trans (hb.mono HB.out.size))
       have HX := Lib.hid (HX.out.below hb HX.out.lt)
       have K1 := Lib.hid (K1.out.later hb)
       have K2 := Lib.hid (K2.out.later hb)
       clear hb f0 g0 f1 g1
       have f0 := HX.out.cell 0
       have f1 := HX.out.cell 1))
  go_cut [129] from 107 (fun s129 wx => s129 = .bool false ∧ Hid (Below w.heap.size w wx))
  case first =>
    by_cases he : e2 = 0
    · as_aux_lemma =>
      subst he
      obtain ⟨p, q, hp, hq, h1, h2, h3⟩ := HG2.out rfl
      subst hp
      subst hq
      have hy := HI0.out.byt
      have hby : Byt (pConf x2) := by rw [← h3]; exact (hy.drop _).take _
      obtain ⟨ys, eys⟩ : ∃ ys, pConf x2 = ys := ⟨_, rfl⟩
      obtain ⟨A3, s1, s2⟩ := slice_mid Try.underlying22 Try.infoU8 HI0.out.rd p q (by omega) (by omega) HI0.out.le
      rw [h3, eys] at s2
      rw [eys] at hby
      have HPU := Lib.hid (fun W k1 k2 => put_conf none 0 0 [] A1 c1 A2 c2 x2 W (Lib.hid Reads.none_) k1 k2 HOK.out (by omega))
      rw [List.nil_append, eys] at HPU
      have HBY := Lib.hid hby
      have S2 := Lib.hid s2
      have D1 := Lib.hid (And.intro h1 h2)
      have dd1 : decide ((q : Int) ≤ (p : Int)) = false := decide_eq_false (by omega)
      have dd2 : decide (q ≤ p) = false := decide_eq_false (by omega)
      have dd3 : decide ((q : Int) > (n : Int)) = false := decide_eq_false (by omega)
      have dd4 : decide (n < q) = false := decide_eq_false (by omega)
      have dd5 : decide ((n : Int) < (q : Int)) = false := decide_eq_false (by omega)
      clear h1 h2 h3 hy hby s2 eys
      go_region_held3 (fun w' => w'.cell? ⟨w2a.heap.size, 0, none⟩ = some (.slice A1 x2.1.length c1) ∧ w'.cell? ⟨w2a.heap.size, 1, none⟩ = some (.slice A2 x2.2.length c2)) (first | exact ⟨f0, f1⟩ | exact ⟨z0, z1⟩ | fail) (first
        | (go_at_call 12; refine (HPU.out _ (Lib.hid K1.out.drew) (Lib.hid K2.out.drew)).mono ?_; rintro e wf ⟨A5, c5, rfl, r5, hb5⟩; have R5 := Lib.hid r5; have hb6 : Below w2e.heap.size w2e wf := undrew hb5; have HX2 := Lib.hid (HX.out.below hb6 HX.out.lt); have z0 := HX2.out.cell 0; have z1 := HX2.out.cell 1; have HB2 := Lib.hid (HB.out.trans (hb6.mono HB.out.size)); clear r5 hb5 hb6)
        | (go_at_call 7; refine (same_any A5 A3 c5 _ _ _ ys ys _ HBY.out HBY.out R5.out ((S2.out _ (HI0.out.rd.below HB2.out)).more HB2.out.size)).mono ?_; rintro e w' ⟨rfl, rfl⟩))
      go_wp2_with fail
      go_meet
      case rel => exact ⟨rfl, HB2⟩
    · as_aux_lemma =>
      have dd : (e2 == 0) = false := by rw [beq_eq_false_iff_ne]; exact he
      clear he
      refine wp_region_class (fun w' => Hid (Below w.heap.size w w')) (by kernel_rfl) (by kernel_rfl) (Lib.hid HB.out.drew) ?_
      repeat (first
        | go_big_quiet_skip
        | (go_big_quiet_want; go_big_quiet_op; first
          | go_big_quiet_on
          | (refine ⟨_, fun _ _ => rfl, ?_⟩; go_big_quiet_on)))
      refine wpQuiet_nil ?_
      intro w' hw'
      go_wp2_with fail
      go_meet
      case rel => exact ⟨rfl, hw'⟩
  case rest =>
  as_aux_lemma =>
  obtain ⟨rfl, hbx⟩ := hcut
  have HB := hbx
  clear hbx HX HOK f0 f1
  go_wp2_with fail
  refine (XU3.out wc (Lib.hid (HI0.out.later HB.out))).mono ?_
  rintro e w3a ⟨hb, v, rfl, ⟨A1, c1, rfl, l1, hok⟩⟩
  have HB := Lib.hid (HB.out.trans (hb.mono HB.out.size))
  have HOK := Lib.hid (hok : MapOk x3)
  have K1 := Lib.hid l1.rd
  clear hb hok l1
  go_wp2_with (refine wpl_store_blk rfl 47 (.tmp 17) (.tmp 134) rfl w3a.heap.size 47 #[.int .u64 0, .slice none 0 0] #[.int .u64 (x3.1 : Int), .slice A1 x3.2.length c1] rfl rfl (Blk.new w3a _ _) rfl Try.sizeMa rfl ?_; intro w3b hB1 hO1)
  have hs : Below w3a.heap.size w3a w3b := ((Below.refl _ _).alloc (Nat.le_refl _) _).trans (hO1.out.below (Nat.le_refl _))
  have HB := Lib.hid (HB.out.trans (hs.mono HB.out.size))
  have K1 := Lib.hid (K1.out.later hs)
  clear hs hO1
  refine (RU3.out w3b (Lib.hid (HI0.out.later HB.out))).mono ?_
  rintro e w3c ⟨hb, v, rfl, ⟨B1, d1, rfl, m1⟩⟩
  have HX := Lib.hid (hB1.out.below hb hB1.out.lt)
  have HB := Lib.hid (HB.out.trans (hb.mono HB.out.size))
  have K1 := Lib.hid (K1.out.later hb)
  have M1 := Lib.hid m1.rd
  clear hb hB1 m1
  go_upto_region 17 with (first
    | (refine wpl_store_blk rfl 47 (.tmp 20) (.tmp 141) rfl w3c.heap.size 47 #[.int .u64 0, .slice none 0 0] #[.int .u64 (x3.1 : Int), .slice B1 x3.2.length d1] rfl rfl (Blk.new w3c _ _) rfl Try.sizeMa rfl ?_; intro w3d hB2 hO2
       have hs : Below w3c.heap.size w3c w3d := ((Below.refl _ _).alloc (Nat.le_refl _) _).trans (hO2.out.below (Nat.le_refl _))
       have HB := Lib.hid (HB.out.trans (hs.mono HB.out.size))
       have HX := Lib.hid (HX.out.below hs HX.out.lt)
       have K1 := Lib.hid (K1.out.later hs)
       have M1 := Lib.hid (M1.out.later hs)
       have f0 := HX.out.cell 0
       have g0 := hB2.out.cell 0
       have f1 := HX.out.cell 1
       have g1 := hB2.out.cell 1
       clear hs hO2)
    | (go_at_call 15; refine (same_map A1 c1 x3 B1 d1 w3d K1 M1 HOK.out).mono ?_; rintro e w3e ⟨rfl, hb⟩
       have HB := Lib.hid (HB.out.trans (hb.mono HB.out.size))
       have HX := Lib.hid (HX.out.below hb HX.out.lt)
       have K1 := Lib.hid (K1.out.later hb)
       clear hb f0 g0 f1 g1
       have f0 := HX.out.cell 0
       have f1 := HX.out.cell 1))
  go_cut [180] from 158 (fun s180 wx => s180 = .bool false ∧ Hid (Below w.heap.size w wx))
  case first =>
    by_cases he : e3 = 0
    · as_aux_lemma =>
      subst he
      obtain ⟨p, q, hp, hq, h1, h2, h3⟩ := HG3.out rfl
      subst hp
      subst hq
      have hy := HI0.out.byt
      have hby : Byt (pMap x3) := by rw [← h3]; exact (hy.drop _).take _
      obtain ⟨ys, eys⟩ : ∃ ys, pMap x3 = ys := ⟨_, rfl⟩
      obtain ⟨A3, s1, s2⟩ := slice_mid Try.underlying22 Try.infoU8 HI0.out.rd p q (by omega) (by omega) HI0.out.le
      rw [h3, eys] at s2
      rw [eys] at hby
      have HPU := Lib.hid (fun W k1 => put_map none 0 0 [] A1 c1 x3 W (Lib.hid Reads.none_) k1 HOK.out (by omega))
      rw [List.nil_append, eys] at HPU
      have HBY := Lib.hid hby
      have S2 := Lib.hid s2
      have D1 := Lib.hid (And.intro h1 h2)
      have dd1 : decide ((q : Int) ≤ (p : Int)) = false := decide_eq_false (by omega)
      have dd2 : decide (q ≤ p) = false := decide_eq_false (by omega)
      have dd3 : decide ((q : Int) > (n : Int)) = false := decide_eq_false (by omega)
      have dd4 : decide (n < q) = false := decide_eq_false (by omega)
      have dd5 : decide ((n : Int) < (q : Int)) = false := decide_eq_false (by omega)
      clear h1 h2 h3 hy hby s2 eys
      go_region_held3 (fun w' => w'.cell? ⟨w3a.heap.size, 0, none⟩ = some (.int .u64 (x3.1 : Int)) ∧ w'.cell? ⟨w3a.heap.size, 1, none⟩ = some (.slice A1 x3.2.length c1)) (first | exact ⟨f0, f1⟩ | exact ⟨z0, z1⟩ | fail) (first
        | (go_at_call 16; refine (HPU.out _ (Lib.hid K1.out.drew)).mono ?_; rintro e wf ⟨A5, c5, rfl, r5, hb5⟩; have R5 := Lib.hid r5; have hb6 : Below w3e.heap.size w3e wf := undrew hb5; have HX2 := Lib.hid (HX.out.below hb6 HX.out.lt); have z0 := HX2.out.cell 0; have z1 := HX2.out.cell 1; have HB2 := Lib.hid (HB.out.trans (hb6.mono HB.out.size)); clear r5 hb5 hb6)
        | (go_at_call 7; refine (same_any A5 A3 c5 _ _ _ ys ys _ HBY.out HBY.out R5.out ((S2.out _ (HI0.out.rd.below HB2.out)).more HB2.out.size)).mono ?_; rintro e w' ⟨rfl, rfl⟩))
      go_wp2_with fail
      go_meet
      case rel => exact ⟨rfl, HB2⟩
    · as_aux_lemma =>
      have dd : (e3 == 0) = false := by rw [beq_eq_false_iff_ne]; exact he
      clear he
      refine wp_region_class (fun w' => Hid (Below w.heap.size w w')) (by kernel_rfl) (by kernel_rfl) (Lib.hid HB.out.drew) ?_
      repeat (first
        | go_big_quiet_skip
        | (go_big_quiet_want; go_big_quiet_op; first
          | go_big_quiet_on
          | (refine ⟨_, fun _ _ => rfl, ?_⟩; go_big_quiet_on)))
      refine wpQuiet_nil ?_
      intro w' hw'
      go_wp2_with fail
      go_meet
      case rel => exact ⟨rfl, hw'⟩
  case rest =>
  as_aux_lemma =>
  obtain ⟨rfl, hbx⟩ := hcut
  have HB := hbx
  clear hbx HX HOK f0 f1
  go_wp2_with fail
  refine (XU4.out wc (Lib.hid (HI0.out.later HB.out))).mono ?_
  rintro e w4a ⟨hb, v, rfl, ⟨A1, c1, rfl, l1, hok⟩⟩
  try unfold cmdCs
  have HB := Lib.hid (HB.out.trans (hb.mono HB.out.size))
  have HOK := Lib.hid (hok : CmdOk x4)
  have K1 := Lib.hid l1.rd
  clear hb hok l1
  go_wp2_with (refine wpl_store_blk rfl 56 (.tmp 23) (.tmp 185) rfl w4a.heap.size 56 #[.int .i64 0, .int .u64 0, .int .u64 0, .string ⟨#[]⟩, .int .i64 0, .int .u32 0, .int .u64 0, .int .u64 0, .int .i64 0, .int .i64 0, .bool false, .int .u64 0, .int .i64 0, .int .u64 0, .int .u64 0, .slice none 0 0] #[.int .i64 x4.kind, .int .u64 (x4.client : Int), .int .u64 (x4.seq : Int), .string (strOf x4.key), .int .i64 x4.size, .int .u32 (x4.sum : Int), .int .u64 (x4.version : Int), .int .u64 (x4.epoch : Int), .int .i64 x4.group, .int .i64 x4.node, .bool x4.up, .int .u64 (x4.id.ver : Int), .int .i64 x4.id.idx, .int .u64 (x4.id.ep : Int), .int .u64 (x4.mep : Int), .slice A1 x4.mem.length c1] rfl rfl (Blk.new w4a _ _) rfl Try.sizeC rfl ?_; intro w4b hB1 hO1)
  have hs : Below w4a.heap.size w4a w4b := ((Below.refl _ _).alloc (Nat.le_refl _) _).trans (hO1.out.below (Nat.le_refl _))
  have HB := Lib.hid (HB.out.trans (hs.mono HB.out.size))
  have K1 := Lib.hid (K1.out.later hs)
  clear hs hO1
  refine (RU4.out w4b (Lib.hid (HI0.out.later HB.out))).mono ?_
  rintro e w4c ⟨hb, v, rfl, ⟨B1, d1, rfl, m1⟩⟩
  try unfold cmdCs
  have HX := Lib.hid (hB1.out.below hb hB1.out.lt)
  have HB := Lib.hid (HB.out.trans (hb.mono HB.out.size))
  have K1 := Lib.hid (K1.out.later hb)
  have M1 := Lib.hid m1.rd
  clear hb hB1 m1
  go_upto_region 23 with (first
    | (refine wpl_store_blk rfl 56 (.tmp 26) (.tmp 192) rfl w4c.heap.size 56 #[.int .i64 0, .int .u64 0, .int .u64 0, .string ⟨#[]⟩, .int .i64 0, .int .u32 0, .int .u64 0, .int .u64 0, .int .i64 0, .int .i64 0, .bool false, .int .u64 0, .int .i64 0, .int .u64 0, .int .u64 0, .slice none 0 0] #[.int .i64 x4.kind, .int .u64 (x4.client : Int), .int .u64 (x4.seq : Int), .string (strOf x4.key), .int .i64 x4.size, .int .u32 (x4.sum : Int), .int .u64 (x4.version : Int), .int .u64 (x4.epoch : Int), .int .i64 x4.group, .int .i64 x4.node, .bool x4.up, .int .u64 (x4.id.ver : Int), .int .i64 x4.id.idx, .int .u64 (x4.id.ep : Int), .int .u64 (x4.mep : Int), .slice B1 x4.mem.length d1] rfl rfl (Blk.new w4c _ _) rfl Try.sizeC rfl ?_; intro w4d hB2 hO2
       have hs : Below w4c.heap.size w4c w4d := ((Below.refl _ _).alloc (Nat.le_refl _) _).trans (hO2.out.below (Nat.le_refl _))
       have HB := Lib.hid (HB.out.trans (hs.mono HB.out.size))
       have HX := Lib.hid (HX.out.below hs HX.out.lt)
       have K1 := Lib.hid (K1.out.later hs)
       have M1 := Lib.hid (M1.out.later hs)
       have f0 := HX.out.cell 0
       have g0 := hB2.out.cell 0
       have f1 := HX.out.cell 1
       have g1 := hB2.out.cell 1
       have f2 := HX.out.cell 2
       have g2 := hB2.out.cell 2
       have f3 := HX.out.cell 3
       have g3 := hB2.out.cell 3
       have f4 := HX.out.cell 4
       have g4 := hB2.out.cell 4
       have f5 := HX.out.cell 5
       have g5 := hB2.out.cell 5
       have f6 := HX.out.cell 6
       have g6 := hB2.out.cell 6
       have f7 := HX.out.cell 7
       have g7 := hB2.out.cell 7
       have f8 := HX.out.cell 8
       have g8 := hB2.out.cell 8
       have f9 := HX.out.cell 9
       have g9 := hB2.out.cell 9
       have f10 := HX.out.cell 10
       have g10 := hB2.out.cell 10
       have f11 := HX.out.cell 11
       have g11 := hB2.out.cell 11
       have f12 := HX.out.cell 12
       have g12 := hB2.out.cell 12
       have f13 := HX.out.cell 13
       have g13 := hB2.out.cell 13
       have f14 := HX.out.cell 14
       have g14 := hB2.out.cell 14
       have f15 := HX.out.cell 15
       have g15 := hB2.out.cell 15
       clear hs hO2)
    | (go_at_call 19; refine (same_cmd A1 c1 x4 B1 d1 w4d K1 M1 HOK.out).mono ?_; rintro e w4e ⟨rfl, hb⟩
       have HB := Lib.hid (HB.out.trans (hb.mono HB.out.size))
       have HX := Lib.hid (HX.out.below hb HX.out.lt)
       have K1 := Lib.hid (K1.out.later hb)
       clear hb f0 g0 f1 g1 f2 g2 f3 g3 f4 g4 f5 g5 f6 g6 f7 g7 f8 g8 f9 g9 f10 g10 f11 g11 f12 g12 f13 g13 f14 g14 f15 g15
       have f0 := HX.out.cell 0
       have f1 := HX.out.cell 1
       have f2 := HX.out.cell 2
       have f3 := HX.out.cell 3
       have f4 := HX.out.cell 4
       have f5 := HX.out.cell 5
       have f6 := HX.out.cell 6
       have f7 := HX.out.cell 7
       have f8 := HX.out.cell 8
       have f9 := HX.out.cell 9
       have f10 := HX.out.cell 10
       have f11 := HX.out.cell 11
       have f12 := HX.out.cell 12
       have f13 := HX.out.cell 13
       have f14 := HX.out.cell 14
       have f15 := HX.out.cell 15))
  go_cut [231] from 209 (fun s231 wx => s231 = .bool false ∧ Hid (Below w.heap.size w wx))
  case first =>
    by_cases he : e4 = 0
    · as_aux_lemma =>
      subst he
      obtain ⟨p, q, hp, hq, h1, h2, h3⟩ := HG4.out rfl
      subst hp
      subst hq
      have hy := HI0.out.byt
      have hby : Byt (pCmd x4) := by rw [← h3]; exact (hy.drop _).take _
      obtain ⟨ys, eys⟩ : ∃ ys, pCmd x4 = ys := ⟨_, rfl⟩
      obtain ⟨A3, s1, s2⟩ := slice_mid Try.underlying22 Try.infoU8 HI0.out.rd p q (by omega) (by omega) HI0.out.le
      rw [h3, eys] at s2
      rw [eys] at hby
      have HPU := Lib.hid (fun W k1 => put_cmd none 0 0 [] A1 c1 x4 W (Lib.hid Reads.none_) k1 HOK.out (by omega))
      rw [List.nil_append, eys] at HPU
      have HBY := Lib.hid hby
      have S2 := Lib.hid s2
      have D1 := Lib.hid (And.intro h1 h2)
      have dd1 : decide ((q : Int) ≤ (p : Int)) = false := decide_eq_false (by omega)
      have dd2 : decide (q ≤ p) = false := decide_eq_false (by omega)
      have dd3 : decide ((q : Int) > (n : Int)) = false := decide_eq_false (by omega)
      have dd4 : decide (n < q) = false := decide_eq_false (by omega)
      have dd5 : decide ((n : Int) < (q : Int)) = false := decide_eq_false (by omega)
      clear h1 h2 h3 hy hby s2 eys
      go_region_held3 (fun w' => w'.cell? ⟨w4a.heap.size, 0, none⟩ = some (.int .i64 x4.kind) ∧ w'.cell? ⟨w4a.heap.size, 1, none⟩ = some (.int .u64 (x4.client : Int)) ∧ w'.cell? ⟨w4a.heap.size, 2, none⟩ = some (.int .u64 (x4.seq : Int)) ∧ w'.cell? ⟨w4a.heap.size, 3, none⟩ = some (.string (strOf x4.key)) ∧ w'.cell? ⟨w4a.heap.size, 4, none⟩ = some (.int .i64 x4.size) ∧ w'.cell? ⟨w4a.heap.size, 5, none⟩ = some (.int .u32 (x4.sum : Int)) ∧ w'.cell? ⟨w4a.heap.size, 6, none⟩ = some (.int .u64 (x4.version : Int)) ∧ w'.cell? ⟨w4a.heap.size, 7, none⟩ = some (.int .u64 (x4.epoch : Int)) ∧ w'.cell? ⟨w4a.heap.size, 8, none⟩ = some (.int .i64 x4.group) ∧ w'.cell? ⟨w4a.heap.size, 9, none⟩ = some (.int .i64 x4.node) ∧ w'.cell? ⟨w4a.heap.size, 10, none⟩ = some (.bool x4.up) ∧ w'.cell? ⟨w4a.heap.size, 11, none⟩ = some (.int .u64 (x4.id.ver : Int)) ∧ w'.cell? ⟨w4a.heap.size, 12, none⟩ = some (.int .i64 x4.id.idx) ∧ w'.cell? ⟨w4a.heap.size, 13, none⟩ = some (.int .u64 (x4.id.ep : Int)) ∧ w'.cell? ⟨w4a.heap.size, 14, none⟩ = some (.int .u64 (x4.mep : Int)) ∧ w'.cell? ⟨w4a.heap.size, 15, none⟩ = some (.slice A1 x4.mem.length c1)) (first | exact ⟨f0, f1, f2, f3, f4, f5, f6, f7, f8, f9, f10, f11, f12, f13, f14, f15⟩ | exact ⟨z0, z1, z2, z3, z4, z5, z6, z7, z8, z9, z10, z11, z12, z13, z14, z15⟩ | fail) (first
        | (go_at_call 20; refine (HPU.out _ (Lib.hid K1.out.drew)).mono ?_; rintro e wf ⟨A5, c5, rfl, r5, hb5⟩; have R5 := Lib.hid r5; have hb6 : Below w4e.heap.size w4e wf := undrew hb5; have HX2 := Lib.hid (HX.out.below hb6 HX.out.lt); have z0 := HX2.out.cell 0; have z1 := HX2.out.cell 1; have z2 := HX2.out.cell 2; have z3 := HX2.out.cell 3; have z4 := HX2.out.cell 4; have z5 := HX2.out.cell 5; have z6 := HX2.out.cell 6; have z7 := HX2.out.cell 7; have z8 := HX2.out.cell 8; have z9 := HX2.out.cell 9; have z10 := HX2.out.cell 10; have z11 := HX2.out.cell 11; have z12 := HX2.out.cell 12; have z13 := HX2.out.cell 13; have z14 := HX2.out.cell 14; have z15 := HX2.out.cell 15; have HB2 := Lib.hid (HB.out.trans (hb6.mono HB.out.size)); clear r5 hb5 hb6)
        | (go_at_call 7; refine (same_any A5 A3 c5 _ _ _ ys ys _ HBY.out HBY.out R5.out ((S2.out _ (HI0.out.rd.below HB2.out)).more HB2.out.size)).mono ?_; rintro e w' ⟨rfl, rfl⟩))
      go_wp2_with fail
      go_meet
      case rel => exact ⟨rfl, HB2⟩
    · as_aux_lemma =>
      have dd : (e4 == 0) = false := by rw [beq_eq_false_iff_ne]; exact he
      clear he
      refine wp_region_class (fun w' => Hid (Below w.heap.size w w')) (by kernel_rfl) (by kernel_rfl) (Lib.hid HB.out.drew) ?_
      repeat (first
        | go_big_quiet_skip
        | (go_big_quiet_want; go_big_quiet_op; first
          | go_big_quiet_on
          | (refine ⟨_, fun _ _ => rfl, ?_⟩; go_big_quiet_on)))
      refine wpQuiet_nil ?_
      intro w' hw'
      go_wp2_with fail
      go_meet
      case rel => exact ⟨rfl, hw'⟩
  case rest =>
  as_aux_lemma =>
  obtain ⟨rfl, hbx⟩ := hcut
  have HB := hbx
  clear hbx HX HOK f0 f1 f2 f3 f4 f5 f6 f7 f8 f9 f10 f11 f12 f13 f14 f15
  go_wp2_with (go_at_call 21; refine (heads_any wc).mono ?_; rintro e wh ⟨rfl, hb⟩; have HB := Lib.hid (HB.out.trans (hb.mono HB.out.size)); clear hb)
  go_ret
  exact ⟨rfl, HB.out⟩
theorem walk_PackReads (W : World) (A : Option Addr) (n cap : Nat) (z : List Int) (h : Ints .u8 W A n cap z) (s : n * 1 ≤ 140737488351232) (at_ : Int) (wa : Lit.wf (.int .i64 at_)) :
    Calls Try.prog 3 #[.slice A n cap, .int .i64 at_] W fun e w' => e = .returned (.bool true) ∧ Below W.heap.size W w' := by
  obtain ⟨xs, hx, hl, hr, hc, hm⟩ := h.bytes
  exact reads_any A n cap xs at_ W (Lib.hid ⟨hr, hx, hl, hc, hm, by omega⟩)
namespace packReads
open Go.ChangeShapes Go.WideShapes Go.ChangeAt Go.RowKit
open Go.ChangeMaps (open_string shut_string)
set_option linter.unusedVariables false
theorem own : ownKnob Try.prog.godebug = none := by kernel_rfl
theorem laidOut : laidOutB Try.prog = true := by kernel_rfl
set_option maxRecDepth 100000 in
theorem contract (H : Type) (enc : TypeId × Value → H) (W : World) (base : Nat) (args : Array Value) (ds gs : List (DataW H)) (before : List MemPlace)
    (hval0 : ∀ (j : Nat) t v, Try.f3.params[j]? = some t → args[j]? = some v → Value.okWide Try.prog W .any base t v)
    (hW : DataW.Whole enc Try.prog Try.f3.params.toList Rows.packReadsSpec.vars false W args.toList ds gs before) (hsz : (DataW.weightsEach Try.prog (Try.f3.params.toList ++ Rows.packReadsSpec.plain.varTypes Try.prog) (ds ++ gs)).all (· ≤ reachBytes) = true) :
    Calls Try.prog 3 args W fun e W' => ∃ v, e = .returned v ∧ Rows.packReadsSpec.post enc Try.prog Try.f3 false true false false W args v W' := by
  have hval : ∀ (j : Nat) t v, Try.f3.params[j]? = some t → args[j]? = some v → Value.okWide Try.prog W .any base t v := hval0
  have hW' := hW
  obtain ⟨p, q, hA0, hV, rfl, hfz, hnd⟩ := hW
  have hA : DataW.TrodAll enc Try.prog W 0 (fun _ => true) true Try.f3.params.toList args.toList ds p := hA0
  rw [Try.params3] at hA hval
  obtain ⟨v0, vs0, d0, ds0, p0, q0, hargs, rfl, rfl, h0, r0⟩ := trodAll_cons hA
  obtain ⟨v1, vs1, d1, ds1, p1, q1, rfl, rfl, rfl, h1, r1⟩ := trodAll_cons r0
  obtain ⟨rfl, rfl, rfl⟩ := trodAll_nil r1
  obtain rfl : args = #[v0, v1] := by cases args; simp_all
  obtain ⟨rfl, rfl⟩ := trodVars_none hV
  have k0 := h0
  have lt0 : ∀ x ∈ p0, x.block < W.heap.size := by obtain ⟨m, hm⟩ := k0; exact DataW.trod_lt m _ _ _ hm
  have k1 := h1
  have lt1 : ∀ x ∈ p1, x.block < W.heap.size := by obtain ⟨m, hm⟩ := k1; exact DataW.trod_lt m _ _ _ hm
  obtain ⟨A0, len0, cap0, rfl⟩ := okWide_slice Try.underlying22 (hval 0 22 v0 rfl rfl)
  obtain ⟨z0, w0⟩ := open_in_ints Try.underlying22 Try.underlying5 (by kernel_rfl) h0
  have s0 := ints_reach (b := 1) Try.underlying22 Try.underlying5 (by kernel_rfl) h0 (fun el sr hd => by have := sized_slice hsz (j := 0) (t := 22) (e := 5) (elems := el) (spare := sr) rfl (by subst hd; rfl) Try.underlying22; rwa [show Try.prog.bytesOf 5 = 1 from by kernel_rfl] at this)
  obtain ⟨a1, rfl, rfl, rfl, w1⟩ := open_int Try.underlying3 (hval 1 3 v1 rfl rfl) h1
  clear hA0 hval0
  refine (walk_PackReads W A0 len0 cap0 z0 w0 s0 a1 w1).mono fun e W' ⟨he, bel⟩ => ?_
  subst he
  exact ⟨_, rfl, _, _, _, [], _, [], hW', trodAll_mk1 (shut_bool Try.underlying4 _), (trodAll_cons_mk (Below.trod laidOut (by kernel_rfl) (of_decide_eq_true (by kernel_rfl)) k0 bel lt0) (trodAll_cons_mk (Below.trod laidOut (by kernel_rfl) (of_decide_eq_true (by kernel_rfl)) k1 bel lt1) trodAll_mk0)), rfl, bel.frame _, fun h => by cases h⟩
set_option maxRecDepth 100000 in
theorem lifted (os : Os) (started : os.Started) (H : Type) (enc : TypeId × Value → H) :
    ReturnsInHanded {} Try.checked os 3 .any (Rows.packReadsSpec.pre6 enc Try.prog Try.f3 Rows.packReadsRow.domain false) (Rows.packReadsSpec.post enc Try.prog Try.f3 false true false false) := by
  refine returnsInHanded_of_change_sized (C := Try.checked) own started (by kernel_rfl) Try.func3
    (ChangeSpec.witness6 (enc := enc) (C := Try.checked) false ⟨#[], #[.slice none 0 0, .int .i64 0], []⟩ 8 (by kernel_rfl) (by kernel_rfl) (by kernel_rfl) (by kernel_rfl)) ?_
  intro W base args ds gs before hval hW _ hsz _
  exact contract H enc W base args ds gs before hval hW hsz
theorem over : Rows.packReadsRow.holds Try.pinned (OpenSpec.ofChange Rows.packReadsSpec) :=
  OpenClaim.holds_of_wide 3 Try.f3 rfl rfl rfl rfl rfl rfl rfl ⟨rfl, rfl, rfl, rfl, rfl⟩ rfl rfl rfl rfl rfl (by kernel_rfl) Try.func3 (by kernel_rfl)
    (of_decide_eq_true (by kernel_rfl)) (by unfold Func.isWrapper; first | (rw [if_pos (by decide +kernel)]; kernel_rfl) | (rw [if_neg (by decide +kernel)]; exact ⟨rfl, rfl⟩))
    (fun os started H enc _ => lifted os started H enc)
/-- THE STATEMENT. -/
theorem proved : Rows.PackReadsSaid := over
end packReads
end Go.Proofs.Ythgiafjiemiifaa
