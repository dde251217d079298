/-
  THE REFERENCE's CHECK; what both Checks answer. (printed by gen_wirc7.py); ROWS OF ROWS OF BYTES in memory: own ones that grow, ones that are read; the reference's Same. (printed by gen. (joined out of WirC7, WirB1 by shake.py)
-/
import Derived.Deep.OwnRows
import Derived.Test.YtlnneacgllhdhaaGreatDoorWpv27
import Derived.Test.YtlnneacgllhdhaaGreatDoorWpv28
import Derived.Test.YtlnneacgllhdhaaGreatDoorWpv29
import Derived.Test.YtlnneacgllhdhaaGreatDoorWpv30
import Derived.Test.YtlnneacgllhdhaaGreatDoorWpv31
import Derived.Test.YtlnneacgllhdhaaGreatDoorWpv32
import Derived.Test.YtlnneacgllhdhaaGreatDoorWpv41
import Derived.Test.YtlnneacgllhdhaaGreatDoorWpv39
import Derived.Test.YtlnneacgllhdhaaGreatDoorWpv42
import Derived.Test.YtlnneacgllhdhaaGreatDoorWpv35
import Derived.Test.YtlnneacgllhdhaaGreatDoorWpv03
section
namespace Go.Proofs.YtlnneacgllhdhaaGreatDoor
open Go.RowKit OctMath
set_option linter.unusedVariables false
set_option linter.unusedSimpArgs false
theorem pM_ok {n : Nat} (h1 : 1 ≤ n) (h2 : n ≤ 13) {m : MG} (h : MsgOk m.x) : MsgOk (pM n m).x := by
  have hn : n = 1 ∨ n = 2 ∨ n = 3 ∨ n = 4 ∨ n = 5 ∨ n = 6 ∨ n = 7 ∨ n = 8 ∨ n = 9 ∨ n = 10 ∨ n = 11 ∨ n = 12 ∨ n = 13 := by omega
  rcases hn with rfl | rfl | rfl | rfl | rfl | rfl | rfl | rfl | rfl | rfl | rfl | rfl | rfl
  all_goals exact ⟨h.kind, h.from_, h.to_, (by first | exact h.term | exact (by decide : (0 : Nat) < 18446744073709551616)), (by first | exact h.index | exact (by decide : (0 : Nat) < 18446744073709551616)), (by first | exact h.logTerm | exact (by decide : (0 : Nat) < 18446744073709551616)), (by first | exact h.commit | exact (by decide : (0 : Nat) < 18446744073709551616)), (by first | exact h.ctx | exact (by decide : (0 : Nat) < 18446744073709551616)), (by first | exact h.ents | exact ⟨(fun y h => by cases h), (by decide : (0 : Nat) ≤ 1048576)⟩), (by first | exact h.conf | exact ⟨ints0_ok, ints0_ok⟩), (by first | exact h.head | exact hd0_ok), (by first | exact h.data | exact txt0_ok), (by first | exact h.client | exact (by decide : (0 : Nat) < 18446744073709551616)), (by first | exact h.seq | exact (by decide : (0 : Nat) < 18446744073709551616)), (by first | exact h.op | exact i0_ok), (by first | exact h.key | exact txt0_ok), (by first | exact h.code | exact i0_ok), (by first | exact h.names | exact ⟨(fun y h => by cases h), (by decide : (0 : Nat) ≤ 1048576)⟩)⟩
theorem none_wide {w : World} {B size : Nat} : Reads w B size none 0 [] := ⟨by simp, fun h => absurd h (by omega)⟩
theorem pM_in {n : Nat} (h1 : 1 ≤ n) (h2 : n ≤ 13) {m : MG} {w : World} (h : MgIn w m) : MgIn w (pM n m) := by
  have hn : n = 1 ∨ n = 2 ∨ n = 3 ∨ n = 4 ∨ n = 5 ∨ n = 6 ∨ n = 7 ∨ n = 8 ∨ n = 9 ∨ n = 10 ∨ n = 11 ∨ n = 12 ∨ n = 13 := by omega
  rcases hn with rfl | rfl | rfl | rfl | rfl | rfl | rfl | rfl | rfl | rfl | rfl | rfl | rfl
  all_goals exact ⟨(by first | exact h.ents | exact none_wide), (by first | exact h.each | exact (fun e h => by cases h)), (by first | exact h.eq | rfl), (by first | exact h.vot | exact Reads.none_), (by first | exact h.lea | exact Reads.none_), (by first | exact h.data | exact Reads.none_), (by first | exact h.names | exact Reads.none_), ⟨h.ok.kind, h.ok.from_, h.ok.to_, (by first | exact h.ok.term | exact (by decide : (0 : Nat) < 18446744073709551616)), (by first | exact h.ok.index | exact (by decide : (0 : Nat) < 18446744073709551616)), (by first | exact h.ok.logTerm | exact (by decide : (0 : Nat) < 18446744073709551616)), (by first | exact h.ok.commit | exact (by decide : (0 : Nat) < 18446744073709551616)), (by first | exact h.ok.ctx | exact (by decide : (0 : Nat) < 18446744073709551616)), (by first | exact h.ok.ents | exact (fun y h => by cases h)), (by first | exact h.ok.vot | exact (fun y h => by cases h)), (by first | exact h.ok.lea | exact (fun y h => by cases h)), (by first | exact h.ok.head | exact hd0_ok), (by first | exact h.ok.data | exact (fun y h => by cases h)), (by first | exact h.ok.client | exact (by decide : (0 : Nat) < 18446744073709551616)), (by first | exact h.ok.seq | exact (by decide : (0 : Nat) < 18446744073709551616)), (by first | exact h.ok.op | exact i0_ok), (by first | exact h.ok.key | exact (fun y h => by cases h)), (by first | exact h.ok.code | exact i0_ok), (by first | exact h.ok.names | exact (fun y h => by cases h))⟩⟩
theorem pMsg_inj {a b : MsgT} (ha : MsgOk a) (hb : MsgOk b) (h : pMsg a = pMsg b) : a = b := by
  have h1 := (got_msg ha).rd [] []
  have h2 := (got_msg hb).rd [] []
  rw [h, h2] at h1
  injection h1 with h1
  injection h1 with h1
  exact h1.symm
theorem part_bare {n : Nat} (h1 : 1 ≤ n) (h2 : n ≤ 13) {m : MG} (he : m.x.ents = m.es.map (·.x)) : (pM n m).x = m.x ↔ Bare (zM n m).x (zM n m).es.length := by
  have hn : n = 1 ∨ n = 2 ∨ n = 3 ∨ n = 4 ∨ n = 5 ∨ n = 6 ∨ n = 7 ∨ n = 8 ∨ n = 9 ∨ n = 10 ∨ n = 11 ∨ n = 12 ∨ n = 13 := by omega
  obtain ⟨⟨x1, x2, x3, x4, x5, x6, x7, x8, x9, x10, x11, x12, x13, ⟨⟨y1, y2, y3⟩, y4, y5, y6, y7⟩, x15, x16, x17, x18, x19, x20, x21⟩, es, Ae, ce, Av, cv, Al, cl, Ad, cd, An, cn⟩ := m
  have he : x11 = es.map (·.x) := he
  subst he
  rcases hn with rfl | rfl | rfl | rfl | rfl | rfl | rfl | rfl | rfl | rfl | rfl | rfl | rfl
  all_goals
    simp only [pM, zM, Bare, MsgT.mk.injEq, HdT.mk.injEq, IdT.mk.injEq, true_and, and_true, List.length_eq_zero_iff, List.length_nil, List.length_map]
    constructor <;> (intro h; first | (simp_all; done) | (simp_all; omega))
theorem part_of (m : MG) (w : World) : (useOf m.x.kind = 0 → Calls Tryz.prog 34 #[.agg (mgCs m)] w (RetPart (pM 0 m) false w)) ∧ (useOf m.x.kind ≠ 0 → Calls Tryz.prog 34 #[.agg (mgCs m)] w (RetPart (pM (useOf m.x.kind) m) true w)) := by
  by_cases h : 1 ≤ m.x.kind ∧ m.x.kind ≤ 19
  · have hn : m.x.kind = 1 ∨ m.x.kind = 2 ∨ m.x.kind = 3 ∨ m.x.kind = 4 ∨ m.x.kind = 5 ∨ m.x.kind = 6 ∨ m.x.kind = 7 ∨ m.x.kind = 8 ∨ m.x.kind = 9 ∨ m.x.kind = 10 ∨ m.x.kind = 11 ∨ m.x.kind = 12 ∨ m.x.kind = 13 ∨ m.x.kind = 14 ∨ m.x.kind = 15 ∨ m.x.kind = 16 ∨ m.x.kind = 17 ∨ m.x.kind = 18 ∨ m.x.kind = 19 := by omega
    rcases hn with h | h | h | h | h | h | h | h | h | h | h | h | h | h | h | h | h | h | h
    · have hu : useOf m.x.kind = 1 := by rw [h]; decide
      exact ⟨fun e => absurd (hu.symm.trans e) (by decide), fun _ => by rw [hu]; exact part_1 m w (by omega)⟩
    · have hu : useOf m.x.kind = 2 := by rw [h]; decide
      exact ⟨fun e => absurd (hu.symm.trans e) (by decide), fun _ => by rw [hu]; exact part_2 m w (by omega)⟩
    · have hu : useOf m.x.kind = 1 := by rw [h]; decide
      exact ⟨fun e => absurd (hu.symm.trans e) (by decide), fun _ => by rw [hu]; exact part_1 m w (by omega)⟩
    · have hu : useOf m.x.kind = 2 := by rw [h]; decide
      exact ⟨fun e => absurd (hu.symm.trans e) (by decide), fun _ => by rw [hu]; exact part_2 m w (by omega)⟩
    · have hu : useOf m.x.kind = 5 := by rw [h]; decide
      exact ⟨fun e => absurd (hu.symm.trans e) (by decide), fun _ => by rw [hu]; exact part_5 m w (by omega)⟩
    · have hu : useOf m.x.kind = 6 := by rw [h]; decide
      exact ⟨fun e => absurd (hu.symm.trans e) (by decide), fun _ => by rw [hu]; exact part_6 m w (by omega)⟩
    · have hu : useOf m.x.kind = 7 := by rw [h]; decide
      exact ⟨fun e => absurd (hu.symm.trans e) (by decide), fun _ => by rw [hu]; exact part_7 m w (by omega)⟩
    · have hu : useOf m.x.kind = 8 := by rw [h]; decide
      exact ⟨fun e => absurd (hu.symm.trans e) (by decide), fun _ => by rw [hu]; exact part_8 m w (by omega)⟩
    · have hu : useOf m.x.kind = 9 := by rw [h]; decide
      exact ⟨fun e => absurd (hu.symm.trans e) (by decide), fun _ => by rw [hu]; exact part_9 m w (by omega)⟩
    · have hu : useOf m.x.kind = 10 := by rw [h]; decide
      exact ⟨fun e => absurd (hu.symm.trans e) (by decide), fun _ => by rw [hu]; exact part_10 m w (by omega)⟩
    · have hu : useOf m.x.kind = 3 := by rw [h]; decide
      exact ⟨fun e => absurd (hu.symm.trans e) (by decide), fun _ => by rw [hu]; exact part_3 m w (by omega)⟩
    · have hu : useOf m.x.kind = 3 := by rw [h]; decide
      exact ⟨fun e => absurd (hu.symm.trans e) (by decide), fun _ => by rw [hu]; exact part_3 m w (by omega)⟩
    · have hu : useOf m.x.kind = 3 := by rw [h]; decide
      exact ⟨fun e => absurd (hu.symm.trans e) (by decide), fun _ => by rw [hu]; exact part_3 m w (by omega)⟩
    · have hu : useOf m.x.kind = 3 := by rw [h]; decide
      exact ⟨fun e => absurd (hu.symm.trans e) (by decide), fun _ => by rw [hu]; exact part_3 m w (by omega)⟩
    · have hu : useOf m.x.kind = 11 := by rw [h]; decide
      exact ⟨fun e => absurd (hu.symm.trans e) (by decide), fun _ => by rw [hu]; exact part_11 m w (by omega)⟩
    · have hu : useOf m.x.kind = 12 := by rw [h]; decide
      exact ⟨fun e => absurd (hu.symm.trans e) (by decide), fun _ => by rw [hu]; exact part_12 m w (by omega)⟩
    · have hu : useOf m.x.kind = 13 := by rw [h]; decide
      exact ⟨fun e => absurd (hu.symm.trans e) (by decide), fun _ => by rw [hu]; exact part_13 m w (by omega)⟩
    · have hu : useOf m.x.kind = 4 := by rw [h]; decide
      exact ⟨fun e => absurd (hu.symm.trans e) (by decide), fun _ => by rw [hu]; exact part_4 m w (by omega)⟩
    · have hu : useOf m.x.kind = 4 := by rw [h]; decide
      exact ⟨fun e => absurd (hu.symm.trans e) (by decide), fun _ => by rw [hu]; exact part_4 m w (by omega)⟩
  · have hno : ∀ j : Nat, 1 ≤ j → j ≤ 19 → m.x.kind ≠ (j : Int) := fun j h1 h2 e => h ⟨by omega, by omega⟩
    have hu : useOf m.x.kind = 0 := by
      unfold useOf
      repeat rw [if_neg (by omega)]
    exact ⟨fun _ => part_0 m w hno, fun h => absurd hu h⟩
def RetRC (m : MG) (w : World) (e : Ending) (w' : World) : Prop := Below w.heap.size w w' ∧ ((e = .returned (.int .i64 0) ∧ useOf m.x.kind ≠ 0 ∧ (pM (useOf m.x.kind) m).x = m.x) ∨ (e = .returned (.int .i64 2) ∧ ¬ (useOf m.x.kind ≠ 0 ∧ (pM (useOf m.x.kind) m).x = m.x)))
set_option maxRecDepth 100000 in
set_option maxHeartbeats 16000000 in
theorem rCheck_any (m : MG) (w : World) (hI : Hid (MgIn w m)) (hO : Hid (MsgOk m.x)) : Calls Tryz.prog 12 #[.agg (mgCs m)] w (RetRC m w) := by
  have HP := Lh (fun W => part_of m W)
  obtain ⟨b0, eb0⟩ : ∃ b, w.heap.size = b := ⟨_, rfl⟩
  have X0 := Blk.new w 38 (mgCs m)
  have hb0 : Below w.heap.size w (w.alloc (.cells (mgCs m) 38)) := (Below.refl _ _).alloc (Nat.le_refl _) _
  obtain ⟨w0, ew0⟩ : ∃ w0, w.alloc (.cells (mgCs m) 38) = w0 := ⟨_, rfl⟩
  rw [ew0] at X0 hb0
  rw [eb0] at X0
  have HX := Lh X0
  have HB := Lh hb0
  have HE := Lh eb0
  clear X0 hb0
  go_enter Tryz.func12, Tryz.ntmps12
  by_cases hu : useOf m.x.kind = 0
  · have HU := Lh hu
    have HC := Lh (fun W => (HP.out W).1 hu)
    clear hu
    obtain ⟨c9, ec9⟩ : ∃ c, mgCs (pM 0 m) = c := ⟨_, rfl⟩
    have hz9 : c9.size = 27 := by rw [← ec9]; rfl
    have ho9 : c9.toList.all (·.oneCell') = true := by rw [← ec9]; rfl
    have HZ9 := Lh hz9
    have HO9 := Lh ho9
    have HE9 := Lh ec9
    clear hz9 ho9
    go_wp2_with (first
      | rw [ew0]
      | rw [eb0]
      | (refine wpl_load_blk rfl 38 (.tmp 1) rfl b0 38 (mgCs m) _ rfl HX.out Tryz.underlying38 rfl sizeMsg ?_)
      | (go_at_call 34; refine (HC.out w0).mono ?_; rintro e w1 ⟨rfl, hb⟩
         rw [ec9]
         have HB1 := Lh (HB.out.trans (hb.mono HB.out.size))
         have HX1 := Lh (HX.out.below hb HX.out.lt)
         have W1 := Blk.new w1 38 #[.int .i64 0, .int .i64 0, .int .i64 0, .int .u64 0, .int .u64 0, .int .u64 0, .int .u64 0, .int .u64 0, .bool false, .bool false, .slice none 0 0, .slice none 0 0, .slice none 0 0, .int .u64 0, .int .i64 0, .int .u64 0, .int .i64 0, .int .i64 0, .int .i64 0, .int .u32 0, .slice none 0 0, .int .u64 0, .int .u64 0, .int .i64 0, .string ⟨#[]⟩, .int .i64 0, .slice none 0 0]
         have hbn : Below w1.heap.size w1 (w1.alloc (.cells #[.int .i64 0, .int .i64 0, .int .i64 0, .int .u64 0, .int .u64 0, .int .u64 0, .int .u64 0, .int .u64 0, .bool false, .bool false, .slice none 0 0, .slice none 0 0, .slice none 0 0, .int .u64 0, .int .i64 0, .int .u64 0, .int .i64 0, .int .i64 0, .int .i64 0, .int .u32 0, .slice none 0 0, .int .u64 0, .int .u64 0, .int .i64 0, .string ⟨#[]⟩, .int .i64 0, .slice none 0 0] 38)) := (Below.refl _ _).alloc (Nat.le_refl _) _
         obtain ⟨b1, eb1⟩ : ∃ b, w1.heap.size = b := ⟨_, rfl⟩
         obtain ⟨w2, ew2⟩ : ∃ w2, w1.alloc (.cells #[.int .i64 0, .int .i64 0, .int .i64 0, .int .u64 0, .int .u64 0, .int .u64 0, .int .u64 0, .int .u64 0, .bool false, .bool false, .slice none 0 0, .slice none 0 0, .slice none 0 0, .int .u64 0, .int .i64 0, .int .u64 0, .int .i64 0, .int .i64 0, .int .i64 0, .int .u32 0, .slice none 0 0, .int .u64 0, .int .u64 0, .int .i64 0, .string ⟨#[]⟩, .int .i64 0, .slice none 0 0] 38) = w2 := ⟨_, rfl⟩
         rw [ew2] at W1 hbn
         have HX2 := Lh (HX1.out.below hbn HX1.out.lt)
         have HB2 := Lh (HB1.out.trans (hbn.mono HB1.out.size))
         rw [eb1] at W1
         have HW2 := Lh W1
         have HLT := Lh (show b0 < b1 ∧ w.heap.size ≤ b1 from by have h1 := HX1.out.lt; have h2 := HB1.out.size; omega)
         clear hb W1 hbn)
      | rw [ew2]
      | rw [eb1]
      | (refine wpl_store_blk rfl 38 (.tmp 3) (.tmp 8) rfl b1 38 #[.int .i64 0, .int .i64 0, .int .i64 0, .int .u64 0, .int .u64 0, .int .u64 0, .int .u64 0, .int .u64 0, .bool false, .bool false, .slice none 0 0, .slice none 0 0, .slice none 0 0, .int .u64 0, .int .i64 0, .int .u64 0, .int .i64 0, .int .i64 0, .int .i64 0, .int .u32 0, .slice none 0 0, .int .u64 0, .int .u64 0, .int .i64 0, .string ⟨#[]⟩, .int .i64 0, .slice none 0 0] c9 rfl rfl HW2.out HZ9.out.symm (by rw [HZ9.out]; exact sizeMsg) HO9.out ?_
         intro w4 hB4 hO4
         have HX4 := Lh (hO4.out.blk HX2.out (by have := HLT.out; omega))
         have HB4 := Lh (HB2.out.trans (hO4.out.below HLT.out.2))
         clear hO4))
    go_ret
    exact ⟨HB4.out, .inr ⟨rfl, fun h => h.1 HU.out⟩⟩
  · have HU := Lh hu
    have HC := Lh (fun W => (HP.out W).2 hu)
    have hn : 1 ≤ useOf m.x.kind ∧ useOf m.x.kind ≤ 13 := by
      rcases useOf_cases m.x.kind with ⟨h, -⟩ | ⟨h1, h2, -⟩
      · exact absurd h hu
      · exact ⟨h1, h2⟩
    obtain ⟨n, en⟩ : ∃ n, useOf m.x.kind = n := ⟨_, rfl⟩
    rw [en] at hn HC
    have HN := Lh en
    have HPO := Lh (pM_ok hn.1 hn.2 hO.out)
    have HPI := Lh (fun (W : World) (h : MgIn W m) => pM_in hn.1 hn.2 h)
    have HPE := Lh (show ∀ h : pMsg (pM n m).x = pMsg m.x, (pM n m).x = m.x from fun h => pMsg_inj HPO.out hO.out h)
    obtain ⟨p, ep⟩ : ∃ p, pM n m = p := ⟨_, rfl⟩
    have HEP := Lh ep
    rw [ep] at HPO HPE HPI HC
    clear hu en hn ep
    by_cases hd : pMsg p.x = pMsg m.x
    · have HD := Lh hd
      have hdd : decide (pMsg p.x = pMsg m.x) = true := decide_eq_true hd
      clear hd
      obtain ⟨c9, ec9⟩ : ∃ c, mgCs p = c := ⟨_, rfl⟩
      have hz9 : c9.size = 27 := by rw [← ec9]; rfl
      have ho9 : c9.toList.all (·.oneCell') = true := by rw [← ec9]; rfl
      have HZ9 := Lh hz9
      have HO9 := Lh ho9
      have HE9 := Lh ec9
      clear hz9 ho9
      go_wp2_with (first
        | rw [ew0]
        | rw [eb0]
        | (refine wpl_load_blk rfl 38 (.tmp 1) rfl b0 38 (mgCs m) _ rfl HX.out Tryz.underlying38 rfl sizeMsg ?_)
        | (go_at_call 34; refine (HC.out w0).mono ?_; rintro e w1 ⟨rfl, hb⟩
           rw [ec9]
           have HB1 := Lh (HB.out.trans (hb.mono HB.out.size))
           have HX1 := Lh (HX.out.below hb HX.out.lt)
           have W1 := Blk.new w1 38 #[.int .i64 0, .int .i64 0, .int .i64 0, .int .u64 0, .int .u64 0, .int .u64 0, .int .u64 0, .int .u64 0, .bool false, .bool false, .slice none 0 0, .slice none 0 0, .slice none 0 0, .int .u64 0, .int .i64 0, .int .u64 0, .int .i64 0, .int .i64 0, .int .i64 0, .int .u32 0, .slice none 0 0, .int .u64 0, .int .u64 0, .int .i64 0, .string ⟨#[]⟩, .int .i64 0, .slice none 0 0]
           have hbn : Below w1.heap.size w1 (w1.alloc (.cells #[.int .i64 0, .int .i64 0, .int .i64 0, .int .u64 0, .int .u64 0, .int .u64 0, .int .u64 0, .int .u64 0, .bool false, .bool false, .slice none 0 0, .slice none 0 0, .slice none 0 0, .int .u64 0, .int .i64 0, .int .u64 0, .int .i64 0, .int .i64 0, .int .i64 0, .int .u32 0, .slice none 0 0, .int .u64 0, .int .u64 0, .int .i64 0, .string ⟨#[]⟩, .int .i64 0, .slice none 0 0] 38)) := (Below.refl _ _).alloc (Nat.le_refl _) _
           obtain ⟨b1, eb1⟩ : ∃ b, w1.heap.size = b := ⟨_, rfl⟩
           obtain ⟨w2, ew2⟩ : ∃ w2, w1.alloc (.cells #[.int .i64 0, .int .i64 0, .int .i64 0, .int .u64 0, .int .u64 0, .int .u64 0, .int .u64 0, .int .u64 0, .bool false, .bool false, .slice none 0 0, .slice none 0 0, .slice none 0 0, .int .u64 0, .int .i64 0, .int .u64 0, .int .i64 0, .int .i64 0, .int .i64 0, .int .u32 0, .slice none 0 0, .int .u64 0, .int .u64 0, .int .i64 0, .string ⟨#[]⟩, .int .i64 0, .slice none 0 0] 38) = w2 := ⟨_, rfl⟩
           rw [ew2] at W1 hbn
           have HX2 := Lh (HX1.out.below hbn HX1.out.lt)
           have HB2 := Lh (HB1.out.trans (hbn.mono HB1.out.size))
           rw [eb1] at W1
           have HW2 := Lh W1
           have HLT := Lh (show b0 < b1 ∧ w.heap.size ≤ b1 from by have h1 := HX1.out.lt; have h2 := HB1.out.size; omega)
           clear hb W1 hbn)
        | rw [ew2]
        | rw [eb1]
        | (refine wpl_store_blk rfl 38 (.tmp 3) (.tmp 8) rfl b1 38 #[.int .i64 0, .int .i64 0, .int .i64 0, .int .u64 0, .int .u64 0, .int .u64 0, .int .u64 0, .int .u64 0, .bool false, .bool false, .slice none 0 0, .slice none 0 0, .slice none 0 0, .int .u64 0, .int .i64 0, .int .u64 0, .int .i64 0, .int .i64 0, .int .i64 0, .int .u32 0, .slice none 0 0, .int .u64 0, .int .u64 0, .int .i64 0, .string ⟨#[]⟩, .int .i64 0, .slice none 0 0] c9 rfl rfl HW2.out HZ9.out.symm (by rw [HZ9.out]; exact sizeMsg) HO9.out ?_
           intro w4 hB4 hO4
           have HX4 := Lh (hO4.out.blk HX2.out (by have := HLT.out; omega))
           have HB4 := Lh (HB2.out.trans (hO4.out.below HLT.out.2))
           clear hO4)
        | (refine wpl_want2 (by rfl) (wp_load_blk2 38 (.tmp 3) rfl b1 38 c9 _ rfl hB4.out Tryz.underlying38 rfl (by rw [HZ9.out]; exact sizeMsg) ?_))
        | (refine wpl_want2 (by rfl) (wp_load_blk2 38 (.tmp 1) rfl b0 38 (mgCs m) _ rfl HX4.out Tryz.underlying38 rfl sizeMsg ?_))
        | (go_at_call 22; rw [← HE9.out]; refine (rsame_msg p m w4 (Lh (HPI.out _ (hI.out.later HB4.out))) HPO (Lh (hI.out.later HB4.out)) hO).mono ?_; rintro e w5 ⟨rfl, hb⟩
           have HB5 := Lh (HB4.out.trans (hb.mono HB4.out.size))
           clear hb))
      go_ret
      exact ⟨HB5.out, .inl ⟨rfl, HU.out, by rw [HN.out, HEP.out]; exact HPE.out HD.out⟩⟩
    · have HD := Lh hd
      have hdd : decide (pMsg p.x = pMsg m.x) = false := decide_eq_false hd
      clear hd
      obtain ⟨c9, ec9⟩ : ∃ c, mgCs p = c := ⟨_, rfl⟩
      have hz9 : c9.size = 27 := by rw [← ec9]; rfl
      have ho9 : c9.toList.all (·.oneCell') = true := by rw [← ec9]; rfl
      have HZ9 := Lh hz9
      have HO9 := Lh ho9
      have HE9 := Lh ec9
      clear hz9 ho9
      go_wp2_with (first
        | rw [ew0]
        | rw [eb0]
        | (refine wpl_load_blk rfl 38 (.tmp 1) rfl b0 38 (mgCs m) _ rfl HX.out Tryz.underlying38 rfl sizeMsg ?_)
        | (go_at_call 34; refine (HC.out w0).mono ?_; rintro e w1 ⟨rfl, hb⟩
           rw [ec9]
           have HB1 := Lh (HB.out.trans (hb.mono HB.out.size))
           have HX1 := Lh (HX.out.below hb HX.out.lt)
           have W1 := Blk.new w1 38 #[.int .i64 0, .int .i64 0, .int .i64 0, .int .u64 0, .int .u64 0, .int .u64 0, .int .u64 0, .int .u64 0, .bool false, .bool false, .slice none 0 0, .slice none 0 0, .slice none 0 0, .int .u64 0, .int .i64 0, .int .u64 0, .int .i64 0, .int .i64 0, .int .i64 0, .int .u32 0, .slice none 0 0, .int .u64 0, .int .u64 0, .int .i64 0, .string ⟨#[]⟩, .int .i64 0, .slice none 0 0]
           have hbn : Below w1.heap.size w1 (w1.alloc (.cells #[.int .i64 0, .int .i64 0, .int .i64 0, .int .u64 0, .int .u64 0, .int .u64 0, .int .u64 0, .int .u64 0, .bool false, .bool false, .slice none 0 0, .slice none 0 0, .slice none 0 0, .int .u64 0, .int .i64 0, .int .u64 0, .int .i64 0, .int .i64 0, .int .i64 0, .int .u32 0, .slice none 0 0, .int .u64 0, .int .u64 0, .int .i64 0, .string ⟨#[]⟩, .int .i64 0, .slice none 0 0] 38)) := (Below.refl _ _).alloc (Nat.le_refl _) _
           obtain ⟨b1, eb1⟩ : ∃ b, w1.heap.size = b := ⟨_, rfl⟩
           obtain ⟨w2, ew2⟩ : ∃ w2, w1.alloc (.cells #[.int .i64 0, .int .i64 0, .int .i64 0, .int .u64 0, .int .u64 0, .int .u64 0, .int .u64 0, .int .u64 0, .bool false, .bool false, .slice none 0 0, .slice none 0 0, .slice none 0 0, .int .u64 0, .int .i64 0, .int .u64 0, .int .i64 0, .int .i64 0, .int .i64 0, .int .u32 0, .slice none 0 0, .int .u64 0, .int .u64 0, .int .i64 0, .string ⟨#[]⟩, .int .i64 0, .slice none 0 0] 38) = w2 := ⟨_, rfl⟩
           rw [ew2] at W1 hbn
           have HX2 := Lh (HX1.out.below hbn HX1.out.lt)
           have HB2 := Lh (HB1.out.trans (hbn.mono HB1.out.size))
           rw [eb1] at W1
           have HW2 := Lh W1
           have HLT := Lh (show b0 < b1 ∧ w.heap.size ≤ b1 from by have h1 := HX1.out.lt; have h2 := HB1.out.size; omega)
           clear hb W1 hbn)
        | rw [ew2]
        | rw [eb1]
        | (refine wpl_store_blk rfl 38 (.tmp 3) (.tmp 8) rfl b1 38 #[.int .i64 0, .int .i64 0, .int .i64 0, .int .u64 0, .int .u64 0, .int .u64 0, .int .u64 0, .int .u64 0, .bool false, .bool false, .slice none 0 0, .slice none 0 0, .slice none 0 0, .int .u64 0, .int .i64 0, .int .u64 0, .int .i64 0, .int .i64 0, .int .i64 0, .int .u32 0, .slice none 0 0, .int .u64 0, .int .u64 0, .int .i64 0, .string ⟨#[]⟩, .int .i64 0, .slice none 0 0] c9 rfl rfl HW2.out HZ9.out.symm (by rw [HZ9.out]; exact sizeMsg) HO9.out ?_
           intro w4 hB4 hO4
           have HX4 := Lh (hO4.out.blk HX2.out (by have := HLT.out; omega))
           have HB4 := Lh (HB2.out.trans (hO4.out.below HLT.out.2))
           clear hO4)
        | (refine wpl_want2 (by rfl) (wp_load_blk2 38 (.tmp 3) rfl b1 38 c9 _ rfl hB4.out Tryz.underlying38 rfl (by rw [HZ9.out]; exact sizeMsg) ?_))
        | (refine wpl_want2 (by rfl) (wp_load_blk2 38 (.tmp 1) rfl b0 38 (mgCs m) _ rfl HX4.out Tryz.underlying38 rfl sizeMsg ?_))
        | (go_at_call 22; rw [← HE9.out]; refine (rsame_msg p m w4 (Lh (HPI.out _ (hI.out.later HB4.out))) HPO (Lh (hI.out.later HB4.out)) hO).mono ?_; rintro e w5 ⟨rfl, hb⟩
           have HB5 := Lh (HB4.out.trans (hb.mono HB4.out.size))
           clear hb))
      go_ret
      exact ⟨HB5.out, .inr ⟨rfl, fun h => HD.out (by have h2 := h.2; rw [HN.out, HEP.out] at h2; rw [h2])⟩⟩
end Go.Proofs.YtlnneacgllhdhaaGreatDoor
end
section
namespace Go.Proofs.YtlnneacgllhdhaaGreatDoor
open Go.RowKit OctMath
set_option linter.unusedVariables false
def RowsOwn (w : World) (base : Nat) (vs : List Value) (ls : List (List Nat)) : Prop :=
  vs.length = ls.length ∧ ∀ (i : Nat) (l : List Nat), ls[i]? = some l → ∃ v, vs[i]? = some v ∧ w.ownsRow base 5 1 v l.length (l.map bv) ∧ Byt l
def OwnM (w : World) (base : Nat) (v : Value) (ls : List (List Nat)) : Prop := ∃ vs, w.ownsRow base 33 1 v ls.length vs ∧ RowsOwn w base vs ls
def RowsIn (w : World) (vs : List Value) (ls : List (List Nat)) : Prop :=
  vs.length = ls.length ∧ ∀ (i : Nat) (l : List Nat), ls[i]? = some l → ∃ A cap, vs[i]? = some (.slice A l.length cap) ∧ l.length ≤ cap ∧ cap ≤ maxLen ∧ Reads w w.heap.size 1 A l.length (l.map bv) ∧ Byt l
def InM (w : World) (A : Option Addr) (cap : Nat) (ls : List (List Nat)) : Prop := ls.length ≤ cap ∧ cap ≤ maxLen ∧ ∃ vs, Reads w w.heap.size 1 A ls.length vs ∧ RowsIn w vs ls
section
variable {w w' : World} {base base' cap : Nat} {vs : List Value} {ls : List (List Nat)} {v : Value} {A : Option Addr}
theorem RowsOwn.in_ (h : RowsOwn w base vs ls) : RowsIn w vs ls := by
  refine ⟨h.1, fun i l hl => ?_⟩
  obtain ⟨v, hv, ho, hb⟩ := h.2 i l hl
  obtain ⟨A, cap, rfl, h1, h2⟩ := own_slice ho
  exact ⟨A, cap, hv, h1, h2, Reads.of_own ho, hb⟩
theorem OwnM.slice (h : OwnM w base v ls) : ∃ A cap, v = .slice A ls.length cap ∧ InM w A cap ls := by
  obtain ⟨vs, ho, hr⟩ := h
  obtain ⟨A, cap, rfl, h1, h2⟩ := own_slice ho
  exact ⟨A, cap, rfl, h1, h2, vs, Reads.of_own ho, hr.in_⟩
theorem RowsOwn.below (h : RowsOwn w base vs ls) (hb : Below w.heap.size w w') : RowsOwn w' base vs ls :=
  ⟨h.1, fun i l hl => let ⟨v, hv, ho, hy⟩ := h.2 i l hl; ⟨v, hv, own_below ho hb, hy⟩⟩
theorem OwnM.below (h : OwnM w base v ls) (hb : Below w.heap.size w w') : OwnM w' base v ls :=
  let ⟨vs, ho, hr⟩ := h; ⟨vs, own_below ho hb, hr.below hb⟩
theorem RowsIn.later (h : RowsIn w vs ls) (hb : Below w.heap.size w w') : RowsIn w' vs ls :=
  ⟨h.1, fun i l hl => let ⟨A, cap, hv, h1, h2, hr, hy⟩ := h.2 i l hl; ⟨A, cap, hv, h1, h2, hr.later hb, hy⟩⟩
theorem InM.later (h : InM w A cap ls) (hb : Below w.heap.size w w') : InM w' A cap ls :=
  let ⟨h1, h2, vs, hr, hi⟩ := h; ⟨h1, h2, vs, hr.later hb, hi.later hb⟩
theorem InM.row (h : InM w A cap ls) {i : Nat} (hi : i < ls.length) : ∃ ad B c, A = some ad ∧ w.cell? (ad.add i) = some (.slice B (ls.getD i []).length c) ∧ (ls.getD i []).length ≤ c ∧ c ≤ maxLen ∧
    Reads w w.heap.size 1 B (ls.getD i []).length ((ls.getD i []).map bv) ∧ Byt (ls.getD i []) := by
  obtain ⟨_, _, vs, hr, hi2⟩ := h
  obtain ⟨ad, u, e, _, hu, hc⟩ := hr.at_ hi
  have hl : ls[i]? = some (ls.getD i []) := by rw [List.getD_eq_getElem?_getD, List.getElem?_eq_getElem hi]; rfl
  obtain ⟨B, c, hv, h1, h2, h3, h4⟩ := hi2.2 i _ hl
  rw [hu] at hv
  cases hv
  exact ⟨ad, B, c, e, hc, h1, h2, h3, h4⟩
end
structure MSt (w : World) (v : Value) (ls : List (List Nat)) (wr : World) : Prop where
  own : OwnM wr w.heap.size v ls
  bel : Below w.heap.size w wr
theorem RowsOwn.nil (w : World) (base : Nat) : RowsOwn w base [] [] := ⟨rfl, fun i l h => by simp at h⟩
theorem MSt.nil {w wr : World} (hb : Below w.heap.size w wr) : MSt w (.slice none 0 0) [] wr := ⟨⟨[], ⟨rfl, .inl ⟨rfl, rfl⟩⟩, RowsOwn.nil _ _⟩, hb⟩
section
variable {w wr w' : World} {v v' u : Value} {ls : List (List Nat)} {l : List Nat} {vs : List Value} {base : Nat}
theorem RowsOwn.kept {row : Option Nat} (h : RowsOwn w base vs ls) (hg : w.grownBy w' row) (hn : ∀ v l, w.ownsRow base 5 1 v (l : List Value).length l → v.ownBlock = none ∨ v.ownBlock ≠ row) : RowsOwn w' base vs ls :=
  ⟨h.1, fun i l hl => let ⟨v, hv, ho, hy⟩ := h.2 i l hl; ⟨v, hv, ho.kept hg (hn v (l.map bv) (by rw [List.length_map]; exact ho)), hy⟩⟩
theorem RowsOwn.alloc (h : RowsOwn w base vs ls) (o : Obj) : RowsOwn (w.alloc o) base vs ls := h.below ((Below.refl _ _).alloc (Nat.le_refl _) _)
theorem MSt.alloc (h : MSt w v ls wr) (o : Obj) : MSt w v ls (wr.alloc o) := ⟨h.own.below ((Below.refl _ _).alloc (Nat.le_refl _) _), h.bel.alloc h.bel.size o⟩
theorem MSt.below (h : MSt w v ls wr) (hb : Below wr.heap.size wr w') : MSt w v ls w' := ⟨h.own.below hb, h.bel.trans (hb.mono h.bel.size)⟩
end
end Go.Proofs.YtlnneacgllhdhaaGreatDoor
end
