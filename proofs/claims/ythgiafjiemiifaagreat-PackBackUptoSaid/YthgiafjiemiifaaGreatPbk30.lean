/-
  THE PROGRAM'S WRITER: objects. (printed by gen_paq13.py); HEADS of layer 5's statements; THE SAME ENTRY. (printed by gen_pas4.py). (joined out of PaS5, PaL2, PaE1 by shake.py)
-/
import Derived.Deep.Cut
import Derived.Test.YthgiafjiemiifaaGreatPbk18
import Derived.Test.YthgiafjiemiifaaGreatPbk25
import Derived.Test.YthgiafjiemiifaaGreatPbk24
section
namespace Go.Proofs.YthgiafjiemiifaaGreat
open Go.RowKit OctMath
set_option linter.unusedVariables false
set_option maxRecDepth 100000 in
set_option maxHeartbeats 4000000 in
theorem sh_object (H : Nat → Prop) (g : Nat) (xs : List Nat) (A : Option Addr) (c : Nat) (x : ObjT) (w : World) (hp : Hid (Sh H g xs w)) (hS : Hid (Safe H g w)) (hK : Hid (Reads w w.heap.size 1 A x.nodes.length (x.nodes.map iv))) (hKH : Hid (0 < x.nodes.length → ∀ ad, A = some ad → H ad.block)) (HO : ObjOk x) (hl : xs.length + 11534500 ≤ 70000000000000) :
    Calls Tryz.prog 74 #[.pointer (some ⟨g, 0, none⟩), .agg #[.string (strOf x.key), .int .u64 (x.version : Int), .int .i64 x.size, .int .u32 (x.sum : Int), .int .i64 x.group, .int .u64 (x.epoch : Int), .slice A x.nodes.length c]] w (RetW H g (xs ++ pObj x) w) := by
  have HO := Lib.hid HO
  have HL := Lib.hid hl
  obtain ⟨w0, ew0⟩ : ∃ w0, w.alloc (.cells #[.string (strOf x.key), .int .u64 (x.version : Int), .int .i64 x.size, .int .u32 (x.sum : Int), .int .i64 x.group, .int .u64 (x.epoch : Int), .slice A x.nodes.length c] 63) = w0 := ⟨_, rfl⟩
  have hb : Below w.heap.size w (w.alloc (.cells #[.string (strOf x.key), .int .u64 (x.version : Int), .int .i64 x.size, .int .u32 (x.sum : Int), .int .i64 x.group, .int .u64 (x.epoch : Int), .slice A x.nodes.length c] 63)) := (Below.refl _ _).alloc (Nat.le_refl _) _
  have hx : Blk (w.alloc (.cells #[.string (strOf x.key), .int .u64 (x.version : Int), .int .i64 x.size, .int .u32 (x.sum : Int), .int .i64 x.group, .int .u64 (x.epoch : Int), .slice A x.nodes.length c] 63)) w.heap.size 63 #[.string (strOf x.key), .int .u64 (x.version : Int), .int .i64 x.size, .int .u32 (x.sum : Int), .int .i64 x.group, .int .u64 (x.epoch : Int), .slice A x.nodes.length c] := Blk.new w _ _
  rw [ew0] at hb hx
  obtain ⟨H2, eH⟩ : ∃ H2 : Nat → Prop, (fun k => H k ∨ k = w.heap.size) = H2 := ⟨_, rfl⟩
  have h12 : ∀ k, H k → H2 k := fun k hk => by rw [← eH]; exact .inl hk
  have h2b : H2 w.heap.size := by rw [← eH]; exact .inr rfl
  have HP := Lib.hid (show Sh H2 g xs w0 from (hp.out.mono (fun k hk => by rw [← eH] at hk; exact hk.imp id (fun e => by omega))).later hb)
  have HS := Lib.hid (show Safe H2 g w0 from fun k hk => by rw [← eH] at hk; rcases hk with hk | hk; exact ⟨Nat.lt_of_lt_of_le (hS.out k hk).1 hb.size, (hS.out k hk).2⟩; exact ⟨by rw [hk]; exact hx.lt, by have := hp.out.lt; omega⟩)
  have HK := Lib.hid (Keep.below hb : Keep H w w0)
  have HX := Lib.hid hx
  have K := Lib.hid (hK.out.later hb)
  have H12 := Lib.hid h12
  have H2B := Lib.hid h2b
  clear hb hx eH h12 h2b
  have c0 := HX.out.cell 0
  go_enter Tryz.func74, Tryz.ntmps74
  go_wp2_with fail
  clear ew0
  refine (sh_text H2 g xs x.key _ HP HS HO.out.key (by have := HL.out; omega)).mono ?_
  rintro e w1 ⟨rfl, h1, h2⟩
  clear c0
  obtain ⟨y1, hy⟩ : ∃ y, xs ++ pText x.key = y := ⟨_, rfl⟩
  rw [hy] at h1
  have HL := Lib.hid (show y1.length + 10485914 ≤ 70000000000000 from by have h3 := HL.out; have h4 := pText_len (x := x.key) HO.out.key; rw [← hy, List.length_append]; omega)
  have HY1 := Lib.hid hy
  have HP := Lib.hid h1
  have HS := Lib.hid (HS.out.keep h2)
  have HX := Lib.hid (h2.blk HX.out H2B.out)
  have HK := Lib.hid (HK.out.trans (h2.mono H12.out))
  have K := Lib.hid (h2.reads K.out (fun h ad e => H12.out _ (hKH.out h ad e)))
  clear h1 h2 hy
  have c1 := HX.out.cell 1
  go_wp2_with fail
  refine (sh_number H2 g y1 x.version _ HP HS HO.out.version (by have := HL.out; omega)).mono ?_
  rintro e w2 ⟨rfl, h1, h2⟩
  clear c1
  obtain ⟨y2, hy⟩ : ∃ y, y1 ++ putN x.version = y := ⟨_, rfl⟩
  rw [hy] at h1
  have HL := Lib.hid (show y2.length + 10485904 ≤ 70000000000000 from by have h3 := HL.out; have h4 := putN_len10 (n := x.version) HO.out.version; rw [← hy, List.length_append]; omega)
  have HY2 := Lib.hid hy
  have HP := Lib.hid h1
  have HS := Lib.hid (HS.out.keep h2)
  have HX := Lib.hid (h2.blk HX.out H2B.out)
  have HK := Lib.hid (HK.out.trans (h2.mono H12.out))
  have K := Lib.hid (h2.reads K.out (fun h ad e => H12.out _ (hKH.out h ad e)))
  clear h1 h2 hy
  have c2 := HX.out.cell 2
  go_wp2_with fail
  refine (sh_int H2 g y2 x.size _ HP HS HO.out.size (by have := HL.out; omega)).mono ?_
  rintro e w3 ⟨rfl, h1, h2⟩
  clear c2
  obtain ⟨y3, hy⟩ : ∃ y, y2 ++ pInt x.size = y := ⟨_, rfl⟩
  rw [hy] at h1
  have HL := Lib.hid (show y3.length + 10485894 ≤ 70000000000000 from by have h3 := HL.out; have h4 := pInt_len (x := x.size) HO.out.size; rw [← hy, List.length_append]; omega)
  have HY3 := Lib.hid hy
  have HP := Lib.hid h1
  have HS := Lib.hid (HS.out.keep h2)
  have HX := Lib.hid (h2.blk HX.out H2B.out)
  have HK := Lib.hid (HK.out.trans (h2.mono H12.out))
  have K := Lib.hid (h2.reads K.out (fun h ad e => H12.out _ (hKH.out h ad e)))
  clear h1 h2 hy
  have c3 := HX.out.cell 3
  have eu : IntKind.u64.wrap (x.sum : Int) = (x.sum : Int) := by have := HO.out.sum; rw [IntKind.wrap_u64]; omega
  go_wp2_with fail
  refine (sh_number H2 g y3 x.sum _ HP HS (by have := HO.out.sum; omega) (by have := HL.out; omega)).mono ?_
  rintro e w4 ⟨rfl, h1, h2⟩
  clear c3
  clear eu
  obtain ⟨y4, hy⟩ : ∃ y, y3 ++ putN x.sum = y := ⟨_, rfl⟩
  rw [hy] at h1
  have HL := Lib.hid (show y4.length + 10485884 ≤ 70000000000000 from by have h3 := HL.out; have h4 := putN_len10 (n := x.sum) (by have := HO.out.sum; omega); rw [← hy, List.length_append]; omega)
  have HY4 := Lib.hid hy
  have HP := Lib.hid h1
  have HS := Lib.hid (HS.out.keep h2)
  have HX := Lib.hid (h2.blk HX.out H2B.out)
  have HK := Lib.hid (HK.out.trans (h2.mono H12.out))
  have K := Lib.hid (h2.reads K.out (fun h ad e => H12.out _ (hKH.out h ad e)))
  clear h1 h2 hy
  have c4 := HX.out.cell 4
  go_wp2_with fail
  refine (sh_int H2 g y4 x.group _ HP HS HO.out.group (by have := HL.out; omega)).mono ?_
  rintro e w5 ⟨rfl, h1, h2⟩
  clear c4
  obtain ⟨y5, hy⟩ : ∃ y, y4 ++ pInt x.group = y := ⟨_, rfl⟩
  rw [hy] at h1
  have HL := Lib.hid (show y5.length + 10485874 ≤ 70000000000000 from by have h3 := HL.out; have h4 := pInt_len (x := x.group) HO.out.group; rw [← hy, List.length_append]; omega)
  have HY5 := Lib.hid hy
  have HP := Lib.hid h1
  have HS := Lib.hid (HS.out.keep h2)
  have HX := Lib.hid (h2.blk HX.out H2B.out)
  have HK := Lib.hid (HK.out.trans (h2.mono H12.out))
  have K := Lib.hid (h2.reads K.out (fun h ad e => H12.out _ (hKH.out h ad e)))
  clear h1 h2 hy
  have c5 := HX.out.cell 5
  go_wp2_with fail
  refine (sh_number H2 g y5 x.epoch _ HP HS HO.out.epoch (by have := HL.out; omega)).mono ?_
  rintro e w6 ⟨rfl, h1, h2⟩
  clear c5
  obtain ⟨y6, hy⟩ : ∃ y, y5 ++ putN x.epoch = y := ⟨_, rfl⟩
  rw [hy] at h1
  have HL := Lib.hid (show y6.length + 10485864 ≤ 70000000000000 from by have h3 := HL.out; have h4 := putN_len10 (n := x.epoch) HO.out.epoch; rw [← hy, List.length_append]; omega)
  have HY6 := Lib.hid hy
  have HP := Lib.hid h1
  have HS := Lib.hid (HS.out.keep h2)
  have HX := Lib.hid (h2.blk HX.out H2B.out)
  have HK := Lib.hid (HK.out.trans (h2.mono H12.out))
  have K := Lib.hid (h2.reads K.out (fun h ad e => H12.out _ (hKH.out h ad e)))
  clear h1 h2 hy
  have c6 := HX.out.cell 6
  go_wp2_with fail
  refine (sh_ints H2 g y6 A x.nodes.length c x.nodes _ HP HS K (Lib.hid (fun h ad e => H12.out _ (hKH.out h ad e))) (Lib.hid rfl) (HO.out.nodes).2 (Lib.hid (HO.out.nodes).1) (by have := HL.out; omega)).mono ?_
  rintro e w7 ⟨rfl, h1, h2⟩
  clear c6
  obtain ⟨y7, hy⟩ : ∃ y, y6 ++ pList pInt x.nodes = y := ⟨_, rfl⟩
  rw [hy] at h1
  have HL := Lib.hid (show y7.length + 94 ≤ 70000000000000 from by have h3 := HL.out; have h4 := pInts_len (x := x.nodes) HO.out.nodes; rw [← hy, List.length_append]; omega)
  have HY7 := Lib.hid hy
  have HP := Lib.hid h1
  have HS := Lib.hid (HS.out.keep h2)
  have HX := Lib.hid (h2.blk HX.out H2B.out)
  have HK := Lib.hid (HK.out.trans (h2.mono H12.out))
  have K := Lib.hid (h2.reads K.out (fun h ad e => H12.out _ (hKH.out h ad e)))
  clear h1 h2 hy
  go_wp2
  go_end0
  have hz : xs ++ pObj x = y7 := by
    rw [← HY7.out, ← HY6.out, ← HY5.out, ← HY4.out, ← HY3.out, ← HY2.out, ← HY1.out]
    unfold pObj
    simp only [List.append_assoc]
  rw [hz]
  exact ⟨rfl, HP.out.mono (fun k hk => .inl (H12.out k hk)), HK.out⟩
end Go.Proofs.YthgiafjiemiifaaGreat
end
section
namespace Go.Proofs.YthgiafjiemiifaaGreat
open Go.RowKit OctMath
set_option linter.unusedVariables false
theorem pConf_head : pConf ([1, 2], [3]) = [2, 2, 4, 1, 6] := by
  simp [pConf, pList, pInt, zz, putN_small]
theorem rConf_head : resOf (rConf [2, 2]) (([] : List Int), ([] : List Int)) 2 0 = (([], []), 0, 50) := by kernel_rfl
theorem pHd_head : pHd hd0 = [0, 0, 0, 0, 0, 0, 0] := by
  simp [pHd, pId, hd0, id0, pInt, zz, putN_small]
theorem byt_head1 : Byt [2, 2] := fun x hx => by simp at hx; omega
theorem byt_head2 : Byt [2, 2, 4, 1, 6] := fun x hx => by simp at hx; omega
theorem ints_head : IntsOk [1, 2] ∧ IntsOk [3] := ⟨⟨fun y h => by simp at h; rcases h with rfl | rfl <;> exact ⟨by decide, by decide⟩, by decide⟩, ⟨fun y h => by simp at h; subst h; exact ⟨by decide, by decide⟩, by decide⟩⟩
set_option maxRecDepth 100000 in
set_option maxHeartbeats 2000000 in
theorem heads_any (w : World) : Calls Tryz.prog 14 #[] w fun e w' => e = .returned (.bool true) ∧ Below w.heap.size w w' := by
  have hA : Below w.heap.size w ((w.alloc (.cells #[.int .i64 1, .int .i64 2] 3)).alloc (.cells #[.int .i64 3] 3)) := ((Below.refl _ _).alloc (Nat.le_refl _) _).alloc (by simp) _
  have hR1 : Reads ((w.alloc (.cells #[.int .i64 1, .int .i64 2] 3)).alloc (.cells #[.int .i64 3] 3)) ((w.alloc (.cells #[.int .i64 1, .int .i64 2] 3)).alloc (.cells #[.int .i64 3] 3)).heap.size 1 (some ⟨w.heap.size, 0, none⟩) 2 ([(1 : Int), 2].map iv) :=
    ((Reads.lit w 3 [.int .i64 1, .int .i64 2] 1 2 rfl).alloc (by simp) (.cells #[.int .i64 3] 3)).more (by simp)
  have hR2 : Reads ((w.alloc (.cells #[.int .i64 1, .int .i64 2] 3)).alloc (.cells #[.int .i64 3] 3)) ((w.alloc (.cells #[.int .i64 1, .int .i64 2] 3)).alloc (.cells #[.int .i64 3] 3)).heap.size 1 (some ⟨w.heap.size + 1, 0, none⟩) 1 ([(3 : Int)].map iv) := by
    have h := Reads.lit (w.alloc (.cells #[.int .i64 1, .int .i64 2] 3)) 3 [.int .i64 3] 1 1 rfl
    rw [show (w.alloc (.cells #[.int .i64 1, .int .i64 2] 3)).heap.size = w.heap.size + 1 from by simp] at h
    exact h.more (by simp)
  obtain ⟨w0, ew0⟩ : ∃ w0, ((w.alloc (.cells #[.int .i64 1, .int .i64 2] 3)).alloc (.cells #[.int .i64 3] 3)) = w0 := ⟨_, rfl⟩
  rw [ew0] at hA hR1 hR2
  have HA := Lib.hid hA
  have HR1 := Lib.hid hR1
  have HR2 := Lib.hid hR2
  have tk1 : True := trivial
  clear hA hR1 hR2
  go_enter Tryz.func14, Tryz.ntmps14
  go_wp2_with fail
  refine (put_conf none 0 0 [] (some ⟨w.heap.size, 0, none⟩) 2 (some ⟨w.heap.size + 1, 0, none⟩) 1 ([1, 2], [3]) w0 (Lib.hid Reads.none_) HR1 HR2 ints_head (by omega)).mono ?_
  rintro e w1 ⟨A1, c1, rfl, r1, hb⟩
  rw [List.nil_append, pConf_head] at r1
  rw [List.nil_append, pConf_head]
  have R1 := Lib.hid r1
  have HB1 := Lib.hid (HA.out.trans (hb.mono HA.out.size))
  clear r1 hb ew0
  obtain ⟨w2, ew2⟩ : ∃ w2, w1.alloc (.cells #[.int .u8 2, .int .u8 2] 5) = w2 := ⟨_, rfl⟩
  have hb2 : Below w1.heap.size w1 (w1.alloc (.cells #[.int .u8 2, .int .u8 2] 5)) := (Below.refl _ _).alloc (Nat.le_refl _) _
  have hr2 : Reads (w1.alloc (.cells #[.int .u8 2, .int .u8 2] 5)) (w1.alloc (.cells #[.int .u8 2, .int .u8 2] 5)).heap.size 1 (some ⟨w1.heap.size, 0, none⟩) 2 ([2, 2].map bv) := by
    exact (Reads.lit w1 5 [.int .u8 2, .int .u8 2] 1 2 rfl).more (by simp)
  rw [ew2] at hb2 hr2
  have HI2 := Lib.hid (⟨hr2, byt_head1, rfl, Nat.le_refl _, by unfold maxLen; omega, by omega⟩ : InB w2 (some ⟨w1.heap.size, 0, none⟩) 2 2 [2, 2])
  have R2 := Lib.hid (R1.out.later hb2)
  have HB2 := Lib.hid (HB1.out.trans (hb2.mono HB1.out.size))
  clear hb2 hr2
  go_wp2_with fail
  refine (xu_conf (some ⟨w1.heap.size, 0, none⟩) 2 2 [2, 2] 0 w2 HI2).mono ?_
  rw [rConf_head]
  rintro e w3 ⟨hb3, v, rfl, Aa, ca, Ab, cb, rfl, -, -, -⟩
  clear ew2
  have R3 := Lib.hid (R2.out.later hb3)
  have HB3 := Lib.hid (HB2.out.trans (hb3.mono HB2.out.size))
  clear hb3
  obtain ⟨w4, ew4⟩ : ∃ w4, w3.alloc (.cells #[.slice Aa 0 ca, .slice Ab 0 cb] 36) = w4 := ⟨_, rfl⟩
  have hb4 : Below w3.heap.size w3 (w3.alloc (.cells #[.slice Aa 0 ca, .slice Ab 0 cb] 36)) := (Below.refl _ _).alloc (Nat.le_refl _) _
  rw [ew4] at hb4
  have R4 := Lib.hid (R3.out.later hb4)
  have HB4 := Lib.hid (HB3.out.trans (hb4.mono HB3.out.size))
  clear hb4
  obtain ⟨w5, ew5⟩ : ∃ w5, w4.alloc (.cells #[.int .u8 2, .int .u8 2, .int .u8 4, .int .u8 1, .int .u8 6] 5) = w5 := ⟨_, rfl⟩
  have hb5 : Below w4.heap.size w4 (w4.alloc (.cells #[.int .u8 2, .int .u8 2, .int .u8 4, .int .u8 1, .int .u8 6] 5)) := (Below.refl _ _).alloc (Nat.le_refl _) _
  have hr5 : Reads (w4.alloc (.cells #[.int .u8 2, .int .u8 2, .int .u8 4, .int .u8 1, .int .u8 6] 5)) (w4.alloc (.cells #[.int .u8 2, .int .u8 2, .int .u8 4, .int .u8 1, .int .u8 6] 5)).heap.size 1 (some ⟨w4.heap.size, 0, none⟩) 5 ([2, 2, 4, 1, 6].map bv) := by
    exact (Reads.lit w4 5 [.int .u8 2, .int .u8 2, .int .u8 4, .int .u8 1, .int .u8 6] 1 5 rfl).more (by simp)
  rw [ew5] at hb5 hr5
  have R5 := Lib.hid (R4.out.later hb5)
  have HB5 := Lib.hid (HB4.out.trans (hb5.mono HB4.out.size))
  have HR5 := Lib.hid hr5
  clear hb5 hr5
  go_wp2_with fail
  refine (same_any A1 (some ⟨w4.heap.size, 0, none⟩) c1 5 5 5 [2, 2, 4, 1, 6] [2, 2, 4, 1, 6] _ byt_head2 byt_head2 R5.out HR5.out).mono ?_
  rintro e w6 ⟨rfl, rfl⟩
  clear ew4 ew5
  go_wp2_with (go_at_call 35; refine (put_header none 0 0 [] hd0 w5 (Lib.hid Reads.none_) hd0_ok (by omega)).mono ?_; rintro e w7 ⟨A7, c7, rfl, -, hb7⟩; rw [List.nil_append, pHd_head]; have HB7 := Lib.hid (HB5.out.trans (hb7.mono HB5.out.size)); clear hb7)
  go_ret
  exact ⟨rfl, HB7.out⟩
end Go.Proofs.YthgiafjiemiifaaGreat
end
section
namespace Go.Proofs.YthgiafjiemiifaaGreat
open Go.RowKit OctMath
set_option linter.unusedVariables false
set_option maxRecDepth 100000 in
set_option maxHeartbeats 4000000 in
theorem same_entry1 (g1 g2 : Nat) (A : Option Addr) (c : Nat) (B : Option Addr) (d : Nat) (E : Option Addr) (f : Nat) (x : EntT) (A9 : Option Addr) (c9 : Nat) (B9 : Option Addr) (d9 : Nat) (E9 : Option Addr) (f9 : Nat) (w : World) (hK : Hid (Reads w w.heap.size 2 A x.cmd.mem.length (mcells x.cmd.mem))) (hJ : Hid (Reads w w.heap.size 1 B x.voters.length (x.voters.map iv))) (hI : Hid (Reads w w.heap.size 1 E x.learners.length (x.learners.map iv))) (hK9 : Hid (Reads w w.heap.size 2 A9 x.cmd.mem.length (mcells x.cmd.mem))) (hJ9 : Hid (Reads w w.heap.size 1 B9 x.voters.length (x.voters.map iv))) (hI9 : Hid (Reads w w.heap.size 1 E9 x.learners.length (x.learners.map iv))) (HO : EntOk x) (HA : Hid (Blk w g1 38 #[.int .u64 (x.index : Int), .int .u64 (x.term : Int), .int .i64 x.kind, .int .i64 x.cmd.kind, .int .u64 (x.cmd.client : Int), .int .u64 (x.cmd.seq : Int), .string (strOf x.cmd.key), .int .i64 x.cmd.size, .int .u32 (x.cmd.sum : Int), .int .u64 (x.cmd.version : Int), .int .u64 (x.cmd.epoch : Int), .int .i64 x.cmd.group, .int .i64 x.cmd.node, .bool x.cmd.up, .int .u64 (x.cmd.id.ver : Int), .int .i64 x.cmd.id.idx, .int .u64 (x.cmd.id.ep : Int), .int .u64 (x.cmd.mep : Int), .slice A x.cmd.mem.length c, .slice B x.voters.length d, .slice E x.learners.length f])) (HB : Hid (Blk w g2 38 #[.int .u64 (x.index : Int), .int .u64 (x.term : Int), .int .i64 x.kind, .int .i64 x.cmd.kind, .int .u64 (x.cmd.client : Int), .int .u64 (x.cmd.seq : Int), .string (strOf x.cmd.key), .int .i64 x.cmd.size, .int .u32 (x.cmd.sum : Int), .int .u64 (x.cmd.version : Int), .int .u64 (x.cmd.epoch : Int), .int .i64 x.cmd.group, .int .i64 x.cmd.node, .bool x.cmd.up, .int .u64 (x.cmd.id.ver : Int), .int .i64 x.cmd.id.idx, .int .u64 (x.cmd.id.ep : Int), .int .u64 (x.cmd.mep : Int), .slice A9 x.cmd.mem.length c9, .slice B9 x.voters.length d9, .slice E9 x.learners.length f9])) :
    Calls Tryz.prog 7 #[.slice (some ⟨g1, 0, none⟩) 1 1, .slice (some ⟨g2, 0, none⟩) 1 1] w (fun e w' => e = .returned (.bool true) ∧ Below w.heap.size w w') := by
  obtain ⟨ys, hys⟩ : ∃ ys, pEnt x = ys := ⟨_, rfl⟩
  have HP1 := Lib.hid (fun W kK kJ kI => rput_entry A c B d E f x W kK kJ kI HO)
  have HP2 := Lib.hid (fun W kK kJ kI => rput_entry A9 c9 B9 d9 E9 f9 x W kK kJ kI HO)
  rw [hys] at HP1 HP2
  clear hys HO
  go_enter Tryz.func7, Tryz.ntmps7
  go_wp2
  go_loopw [5] (fun vi wr => (vi = .int .i64 0 ∧ wr = w) ∨ (vi = .int .i64 1 ∧ Hid (Below w.heap.size w wr))) (fun vi _ => 1 - (intOf vi).toNat)
  case atStart => exact .inl ⟨rfl, rfl⟩
  case round =>
  rcases hrel with ⟨rfl, rfl⟩ | ⟨rfl, hb⟩
  rotate_left
  · go_wp2
    go_ret
    exact ⟨rfl, hb.out⟩
  go_upto_region 6 with fail
  refine wp_region_late (S0 := fun _ => True) (S := fun w' => Blk w' g1 38 #[.int .u64 (x.index : Int), .int .u64 (x.term : Int), .int .i64 x.kind, .int .i64 x.cmd.kind, .int .u64 (x.cmd.client : Int), .int .u64 (x.cmd.seq : Int), .string (strOf x.cmd.key), .int .i64 x.cmd.size, .int .u32 (x.cmd.sum : Int), .int .u64 (x.cmd.version : Int), .int .u64 (x.cmd.epoch : Int), .int .i64 x.cmd.group, .int .i64 x.cmd.node, .bool x.cmd.up, .int .u64 (x.cmd.id.ver : Int), .int .i64 x.cmd.id.idx, .int .u64 (x.cmd.id.ep : Int), .int .u64 (x.cmd.mep : Int), .slice A x.cmd.mem.length c, .slice B x.voters.length d, .slice E x.learners.length f] ∧ Blk w' g2 38 #[.int .u64 (x.index : Int), .int .u64 (x.term : Int), .int .i64 x.kind, .int .i64 x.cmd.kind, .int .u64 (x.cmd.client : Int), .int .u64 (x.cmd.seq : Int), .string (strOf x.cmd.key), .int .i64 x.cmd.size, .int .u32 (x.cmd.sum : Int), .int .u64 (x.cmd.version : Int), .int .u64 (x.cmd.epoch : Int), .int .i64 x.cmd.group, .int .i64 x.cmd.node, .bool x.cmd.up, .int .u64 (x.cmd.id.ver : Int), .int .i64 x.cmd.id.idx, .int .u64 (x.cmd.id.ep : Int), .int .u64 (x.cmd.mep : Int), .slice A9 x.cmd.mem.length c9, .slice B9 x.voters.length d9, .slice E9 x.learners.length f9]) 12 13 (by kernel_rfl) rfl ⟨trivial, HA.out.drew, HB.out.drew⟩ (fun wd hwd hH => ?_)
  have nd := Lib.hid (show Below wr.heap.size wr wd from by rw [hwd]; exact (Below.refl _ _).drew)
  clear hwd
  refine wpAnyT_stay 0 (v := ?_) rfl (by kernel_rfl) (fun _ _ _ h => h) (Or.inl ⟨by rfl, ?_⟩) ⟨hH.1, fun _ => hH.2⟩ ?_
  rotate_left
  · (intro wx hx; go_simp <;> with_reducible rfl)
  try simp only [Act.put, List.setIfInBounds_toArray, List.set_cons_zero, List.set_cons_succ]
  refine wpAnyT_stay 1 (v := ?_) rfl (by kernel_rfl) (fun _ _ _ h => h) (Or.inl ⟨by rfl, ?_⟩) ⟨hH.1, fun _ => hH.2⟩ ?_
  rotate_left
  · (intro wx hx; go_simp <;> with_reducible rfl)
  try simp only [Act.put, List.setIfInBounds_toArray, List.set_cons_zero, List.set_cons_succ]
  refine wpAnyT_stay 2 (v := ?_) rfl (by kernel_rfl) (fun _ _ _ h => h) (Or.inl ⟨by rfl, ?_⟩) ⟨hH.1, fun _ => hH.2⟩ ?_
  rotate_left
  · (intro wx hx; go_simp <;> with_reducible rfl)
  try simp only [Act.put, List.setIfInBounds_toArray, List.set_cons_zero, List.set_cons_succ]
  refine wpAnyT_take 3 rfl (by kernel_rfl) (fun _ _ _ h => h) (yields_load_blk rfl 38 (.tmp 19) rfl g1 38 #[.int .u64 (x.index : Int), .int .u64 (x.term : Int), .int .i64 x.kind, .int .i64 x.cmd.kind, .int .u64 (x.cmd.client : Int), .int .u64 (x.cmd.seq : Int), .string (strOf x.cmd.key), .int .i64 x.cmd.size, .int .u32 (x.cmd.sum : Int), .int .u64 (x.cmd.version : Int), .int .u64 (x.cmd.epoch : Int), .int .i64 x.cmd.group, .int .i64 x.cmd.node, .bool x.cmd.up, .int .u64 (x.cmd.id.ver : Int), .int .i64 x.cmd.id.idx, .int .u64 (x.cmd.id.ep : Int), .int .u64 (x.cmd.mep : Int), .slice A x.cmd.mem.length c, .slice B x.voters.length d, .slice E x.learners.length f] _ rfl (fun w' hw' => hw'.1) Tryz.underlying38 rfl Tryz.sizeE) hH ?_
  try simp only [Act.put, List.setIfInBounds_toArray, List.set_cons_zero, List.set_cons_succ]
  refine wpAnyT_stay 6 (v := ?_) rfl (by kernel_rfl) (fun _ _ _ h => h) (Or.inl ⟨by rfl, ?_⟩) ⟨hH.1, fun _ => hH.2⟩ ?_
  rotate_left
  · (intro wx hx; go_simp <;> with_reducible rfl)
  try simp only [Act.put, List.setIfInBounds_toArray, List.set_cons_zero, List.set_cons_succ]
  refine wpAnyT_stay 7 (v := ?_) rfl (by kernel_rfl) (fun _ _ _ h => h) (Or.inl ⟨by rfl, ?_⟩) ⟨hH.1, fun _ => hH.2⟩ ?_
  rotate_left
  · (intro wx hx; go_simp <;> with_reducible rfl)
  try simp only [Act.put, List.setIfInBounds_toArray, List.set_cons_zero, List.set_cons_succ]
  refine wpAnyT_stay 8 (v := ?_) rfl (by kernel_rfl) (fun _ _ _ h => h) (Or.inl ⟨by rfl, ?_⟩) ⟨hH.1, fun _ => hH.2⟩ ?_
  rotate_left
  · (intro wx hx; go_simp <;> with_reducible rfl)
  try simp only [Act.put, List.setIfInBounds_toArray, List.set_cons_zero, List.set_cons_succ]
  refine wpAnyT_take 9 rfl (by kernel_rfl) (fun _ _ _ h => h) (yields_load_blk rfl 38 (.tmp 25) rfl g2 38 #[.int .u64 (x.index : Int), .int .u64 (x.term : Int), .int .i64 x.kind, .int .i64 x.cmd.kind, .int .u64 (x.cmd.client : Int), .int .u64 (x.cmd.seq : Int), .string (strOf x.cmd.key), .int .i64 x.cmd.size, .int .u32 (x.cmd.sum : Int), .int .u64 (x.cmd.version : Int), .int .u64 (x.cmd.epoch : Int), .int .i64 x.cmd.group, .int .i64 x.cmd.node, .bool x.cmd.up, .int .u64 (x.cmd.id.ver : Int), .int .i64 x.cmd.id.idx, .int .u64 (x.cmd.id.ep : Int), .int .u64 (x.cmd.mep : Int), .slice A9 x.cmd.mem.length c9, .slice B9 x.voters.length d9, .slice E9 x.learners.length f9] _ rfl (fun w' hw' => hw'.2) Tryz.underlying38 rfl Tryz.sizeE) hH ?_
  try simp only [Act.put, List.setIfInBounds_toArray, List.set_cons_zero, List.set_cons_succ]
  have H3 := Lib.hid (show ((strOf ys).toList == (strOf ys).toList) = true from by simp)
  refine wpAnyT_one 4 rfl (by kernel_rfl) (fun K hQ => ?_)
  go_simp
  (go_at_call 24; refine (HP1.out _ (Lib.hid (hK.out.later nd.out)) (Lib.hid (hJ.out.later nd.out)) (Lib.hid (hI.out.later nd.out))).mono ?_; rintro e w1 ⟨A7, cap1, rfl, r1, hb⟩; have R1 := Lib.hid r1; have HB1 := Lib.hid hb; clear r1 hb)
  refine hQ.out _ _ ⟨trivial, hH.2.1.below HB1.out hH.2.1.lt, hH.2.2.below HB1.out hH.2.2.lt⟩ (fun hH1 => ?_)
  clear hQ K
  try simp only [Act.put, List.setIfInBounds_toArray, List.set_cons_zero, List.set_cons_succ]
  refine wpAnyT_mono (S0' := fun w' => Reads w' w'.heap.size 1 A7 ys.length (ys.map bv)) (S' := fun w' => Blk w' g1 38 #[.int .u64 (x.index : Int), .int .u64 (x.term : Int), .int .i64 x.kind, .int .i64 x.cmd.kind, .int .u64 (x.cmd.client : Int), .int .u64 (x.cmd.seq : Int), .string (strOf x.cmd.key), .int .i64 x.cmd.size, .int .u32 (x.cmd.sum : Int), .int .u64 (x.cmd.version : Int), .int .u64 (x.cmd.epoch : Int), .int .i64 x.cmd.group, .int .i64 x.cmd.node, .bool x.cmd.up, .int .u64 (x.cmd.id.ver : Int), .int .i64 x.cmd.id.idx, .int .u64 (x.cmd.id.ep : Int), .int .u64 (x.cmd.mep : Int), .slice A x.cmd.mem.length c, .slice B x.voters.length d, .slice E x.learners.length f] ∧ Blk w' g2 38 #[.int .u64 (x.index : Int), .int .u64 (x.term : Int), .int .i64 x.kind, .int .i64 x.cmd.kind, .int .u64 (x.cmd.client : Int), .int .u64 (x.cmd.seq : Int), .string (strOf x.cmd.key), .int .i64 x.cmd.size, .int .u32 (x.cmd.sum : Int), .int .u64 (x.cmd.version : Int), .int .u64 (x.cmd.epoch : Int), .int .i64 x.cmd.group, .int .i64 x.cmd.node, .bool x.cmd.up, .int .u64 (x.cmd.id.ver : Int), .int .i64 x.cmd.id.idx, .int .u64 (x.cmd.id.ep : Int), .int .u64 (x.cmd.mep : Int), .slice A9 x.cmd.mem.length c9, .slice B9 x.voters.length d9, .slice E9 x.learners.length f9]) (fun _ _ => trivial) (fun _ h => h) _ _ _ _ ?_
  refine wpAnyT_stay 5 (v := ?_) rfl (by kernel_rfl) (fun _ _ _ h => h) (Or.inl ⟨by rfl, ?_⟩) ⟨R1.out, fun _ => hH1.2⟩ ?_
  rotate_left
  · (intro wx hx; have kc := run_conv_bytes (P := Tryz.prog) (src := 22) (dst := 9) (cap := cap1) Tryz.underlying22 Tryz.underlying5 Tryz.underlying9 hx; go_simp <;> with_reducible rfl)
  try simp only [Act.put, List.setIfInBounds_toArray, List.set_cons_zero, List.set_cons_succ]
  refine wpAnyT_one 10 rfl (by kernel_rfl) (fun K hQ => ?_)
  go_simp
  (go_at_call 24; refine (HP2.out _ (Lib.hid (hK9.out.later (nd.out.trans (HB1.out.mono nd.out.size)))) (Lib.hid (hJ9.out.later (nd.out.trans (HB1.out.mono nd.out.size)))) (Lib.hid (hI9.out.later (nd.out.trans (HB1.out.mono nd.out.size))))).mono ?_; rintro e w2 ⟨A8, cap2, rfl, r2, hb⟩; have R2 := Lib.hid r2; have HB2 := Lib.hid hb; clear r2 hb)
  refine hQ.out _ _ ⟨R1.out.later HB2.out, hH1.2.1.below HB2.out hH1.2.1.lt, hH1.2.2.below HB2.out hH1.2.2.lt⟩ (fun hH2 => ?_)
  clear hQ K
  try simp only [Act.put, List.setIfInBounds_toArray, List.set_cons_zero, List.set_cons_succ]
  refine wpAnyT_mono (S0' := fun w' => Reads w' w'.heap.size 1 A8 ys.length (ys.map bv) ∧ Reads w' w'.heap.size 1 A7 ys.length (ys.map bv)) (S' := fun w' => Blk w' g1 38 #[.int .u64 (x.index : Int), .int .u64 (x.term : Int), .int .i64 x.kind, .int .i64 x.cmd.kind, .int .u64 (x.cmd.client : Int), .int .u64 (x.cmd.seq : Int), .string (strOf x.cmd.key), .int .i64 x.cmd.size, .int .u32 (x.cmd.sum : Int), .int .u64 (x.cmd.version : Int), .int .u64 (x.cmd.epoch : Int), .int .i64 x.cmd.group, .int .i64 x.cmd.node, .bool x.cmd.up, .int .u64 (x.cmd.id.ver : Int), .int .i64 x.cmd.id.idx, .int .u64 (x.cmd.id.ep : Int), .int .u64 (x.cmd.mep : Int), .slice A x.cmd.mem.length c, .slice B x.voters.length d, .slice E x.learners.length f] ∧ Blk w' g2 38 #[.int .u64 (x.index : Int), .int .u64 (x.term : Int), .int .i64 x.kind, .int .i64 x.cmd.kind, .int .u64 (x.cmd.client : Int), .int .u64 (x.cmd.seq : Int), .string (strOf x.cmd.key), .int .i64 x.cmd.size, .int .u32 (x.cmd.sum : Int), .int .u64 (x.cmd.version : Int), .int .u64 (x.cmd.epoch : Int), .int .i64 x.cmd.group, .int .i64 x.cmd.node, .bool x.cmd.up, .int .u64 (x.cmd.id.ver : Int), .int .i64 x.cmd.id.idx, .int .u64 (x.cmd.id.ep : Int), .int .u64 (x.cmd.mep : Int), .slice A9 x.cmd.mem.length c9, .slice B9 x.voters.length d9, .slice E9 x.learners.length f9]) (fun _ h => h.2) (fun _ h => h) _ _ _ _ ?_
  refine wpAnyT_stay 11 (v := ?_) rfl (by kernel_rfl) (fun _ _ _ h => h) (Or.inl ⟨by rfl, ?_⟩) ⟨⟨R2.out, hH2.1⟩, fun _ => hH2.2⟩ ?_
  rotate_left
  · (intro wx hx; have kc := run_conv_bytes (P := Tryz.prog) (src := 22) (dst := 9) (cap := cap2) Tryz.underlying22 Tryz.underlying5 Tryz.underlying9 hx.1; go_simp <;> with_reducible rfl)
  try simp only [Act.put, List.setIfInBounds_toArray, List.set_cons_zero, List.set_cons_succ]
  refine wpAnyT_last 12 rfl (by kernel_rfl) (by decide) (fun K hQ => ?_)
  have h3 := H3.out
  go_simp
  refine hQ.out _ _ ⟨R2.out, hH2.1⟩ (fun hH7 => ?_)
  clear hQ K
  try simp only [Act.put, List.setIfInBounds_toArray, List.set_cons_zero, List.set_cons_succ]
  refine wpAnyT_done (by kernel_rfl) ?_ _
  clear hH hH1 hH2 hH7
  go_wp2
  exact ⟨.inr ⟨rfl, Lib.hid ((nd.out.trans (HB1.out.mono nd.out.size)).trans (HB2.out.mono (Nat.le_trans nd.out.size HB1.out.size)))⟩, by simp [intOf]⟩
end Go.Proofs.YthgiafjiemiifaaGreat
end
