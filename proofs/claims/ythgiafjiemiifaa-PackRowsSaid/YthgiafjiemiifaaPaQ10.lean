/-
  THE REFERENCE'S WRITER: the exported functions; what is the same. (printed by gen_pas4.py)
-/
import Derived.Test.YthgiafjiemiifaaPaQ9
namespace Go.Proofs.Ythgiafjiemiifaa
open Go.RowKit OctMath
set_option linter.unusedVariables false
theorem pen_free {g k B : Nat} {xs : List Nat} {w : World} (h : Pen (fun k => k < B) g xs w) (hk : k < B) (hB : B ≤ w.heap.size) (hg : B ≤ g) : Free (wMd g) k w := by
  obtain ⟨v, hBk, hO, hne, hh⟩ := h.out
  have h0 : w.cell? ⟨g, 0, none⟩ = some v := hBk.cell 0
  have hn : ¬ (k = g ∨ ∃ u, w.cell? ⟨g, 0, none⟩ = some u ∧ u.ownBlock = some k) := by
    rintro (e | ⟨u, hu, e⟩)
    · omega
    · rw [h0] at hu
      injection hu with hu
      subst hu
      exact hh k hk e
  exact ⟨by omega, hn, hn⟩
theorem stp_below {σ : Type} {M : Md σ} {w w' : World} {B : Nat} (h : Stp M w w') (hB : B ≤ w.heap.size) (hf : ∀ k, k < B → ¬ M.wr w k) : Below B w w' := ⟨h.os, h.tape, h.output, h.size, fun k hk => h.block k (by omega) (hf k hk)⟩
set_option maxRecDepth 100000 in
set_option maxHeartbeats 4000000 in
theorem rput_conf (A : Option Addr) (c : Nat) (B : Option Addr) (d : Nat) (x : List Int × List Int) (w : World) (hK : Hid (Reads w w.heap.size 1 A x.1.length (x.1.map iv))) (hJ : Hid (Reads w w.heap.size 1 B x.2.length (x.2.map iv))) (HO : IntsOk x.1 ∧ IntsOk x.2) :
    Calls Try.prog 35 #[.slice none 0 0, .agg #[.slice A x.1.length c, .slice B x.2.length d]] w (RetO (pConf x) w) := by
  obtain ⟨ys, hys⟩ : ∃ ys, pConf x = ys := ⟨_, rfl⟩
  have HYS := Lib.hid hys
  rw [hys]
  clear hys
  obtain ⟨w0, ew0⟩ : ∃ w0, w.alloc (.cells #[.slice A x.1.length c, .slice B x.2.length d] 38) = w0 := ⟨_, rfl⟩
  have hb : Below w.heap.size w (w.alloc (.cells #[.slice A x.1.length c, .slice B x.2.length d] 38)) := (Below.refl _ _).alloc (Nat.le_refl _) _
  have hx : Blk (w.alloc (.cells #[.slice A x.1.length c, .slice B x.2.length d] 38)) w.heap.size 38 #[.slice A x.1.length c, .slice B x.2.length d] := Blk.new w _ _
  rw [ew0] at hb hx
  have HB0 := Lib.hid hb
  have HX0 := Lib.hid hx
  clear hb hx
  have HPF := Lib.hid (fun (g : Nat) (w1 : World) hS hK1 hJ1 => pf_conf (wMd g) (wMd_ok g) [] A c B d x w1 hS hK1 hJ1 HO (Lib.hid (fun h => by cases h)) (Lib.hid (fun h => by cases h)) (Lib.hid (by show 0 + 20971590 ≤ 70000000000000; omega)))
  go_enter Try.func35, Try.ntmps35
  go_wp2_with (first
    | (go_at_call 68; refine (pen_writer none 0 0 [] _ Reads.none_ (by omega)).mono ?_; rintro en w1 ⟨g, rfl, hg, hb, hp⟩
       have HB4 := Lib.hid (HB0.out.trans (hb.mono HB0.out.size))
       have HP1 := Lib.hid (hp.mono (H' := fun k => k < w.heap.size) (fun k hk => .inl (Nat.lt_of_lt_of_le hk HB0.out.size)))
       have HGE := Lib.hid (show w.heap.size ≤ g from Nat.le_trans HB0.out.size hg)
       have HX1 := Lib.hid (HX0.out.below hb HX0.out.lt)
       clear hg hb hp ew0)
    | (refine wpl_load_blk rfl 38 (.tmp 3) rfl w.heap.size 38 _ _ rfl HX1.out Try.underlying38 rfl Try.sizeF ?_)
    | (go_at_call 34; refine (HPF.out g w1 (Lib.hid (HP1.out.mono (fun _ h => h.elim))) (Lib.hid ⟨hK.out.later HB4.out, fun h0 ad e => pen_free HP1.out (by obtain ⟨ad1, e1, h1, -⟩ := hK.out.2 h0; rw [e] at e1; injection e1 with e1; subst e1; exact h1) HB4.out.size HGE.out⟩) (Lib.hid ⟨hJ.out.later HB4.out, fun h0 ad e => pen_free HP1.out (by obtain ⟨ad1, e1, h1, -⟩ := hJ.out.2 h0; rw [e] at e1; injection e1 with e1; subst e1; exact h1) HB4.out.size HGE.out⟩)).mono ?_; rintro en w2 ⟨A1, c1, A2, c2, rfl, -, -, hs, hk⟩
       have hs : Pen (fun _ => False) g (confF (wMd g) [] x).1 w2 := hs
       rw [w_conf, List.nil_append, HYS.out] at hs
       have HK := Lib.hid hk
       obtain ⟨pv, pB, pO, -, -⟩ := hs.out
       obtain ⟨A9, c9, rfl, -, -⟩ := own_slice pO
       have z0 := pB.cell 0
       have HR := Lib.hid (Reads.of_own pO)
       clear hs hk pB pO))
  go_ret
  exact ⟨_, _, rfl, HR.out, HB4.out.trans (stp_below HK.out HB4.out.size (fun k hk => (pen_free HP1.out hk HB4.out.size HGE.out).wr))⟩
set_option maxRecDepth 100000 in
set_option maxHeartbeats 4000000 in
theorem rput_map (A : Option Addr) (c : Nat) (x : Nat × List (Int × Int)) (w : World) (hK : Hid (Reads w w.heap.size 2 A x.2.length (mcells x.2))) (HO : MapOk x) :
    Calls Try.prog 41 #[.slice none 0 0, .agg #[.int .u64 (x.1 : Int), .slice A x.2.length c]] w (RetO (pMap x) w) := by
  obtain ⟨ys, hys⟩ : ∃ ys, pMap x = ys := ⟨_, rfl⟩
  have HYS := Lib.hid hys
  rw [hys]
  clear hys
  obtain ⟨w0, ew0⟩ : ∃ w0, w.alloc (.cells #[.int .u64 (x.1 : Int), .slice A x.2.length c] 47) = w0 := ⟨_, rfl⟩
  have hb : Below w.heap.size w (w.alloc (.cells #[.int .u64 (x.1 : Int), .slice A x.2.length c] 47)) := (Below.refl _ _).alloc (Nat.le_refl _) _
  have hx : Blk (w.alloc (.cells #[.int .u64 (x.1 : Int), .slice A x.2.length c] 47)) w.heap.size 47 #[.int .u64 (x.1 : Int), .slice A x.2.length c] := Blk.new w _ _
  rw [ew0] at hb hx
  have HB0 := Lib.hid hb
  have HX0 := Lib.hid hx
  clear hb hx
  have HPF := Lib.hid (fun (g : Nat) (w1 : World) hS hK1 => pf_map (wMd g) (wMd_ok g) [] A c x w1 hS hK1 HO (Lib.hid (fun h => by cases h)) (Lib.hid (by show 0 + 20971550 ≤ 70000000000000; omega)))
  go_enter Try.func41, Try.ntmps41
  go_wp2_with (first
    | (go_at_call 68; refine (pen_writer none 0 0 [] _ Reads.none_ (by omega)).mono ?_; rintro en w1 ⟨g, rfl, hg, hb, hp⟩
       have HB4 := Lib.hid (HB0.out.trans (hb.mono HB0.out.size))
       have HP1 := Lib.hid (hp.mono (H' := fun k => k < w.heap.size) (fun k hk => .inl (Nat.lt_of_lt_of_le hk HB0.out.size)))
       have HGE := Lib.hid (show w.heap.size ≤ g from Nat.le_trans HB0.out.size hg)
       have HX1 := Lib.hid (HX0.out.below hb HX0.out.lt)
       clear hg hb hp ew0)
    | (refine wpl_load_blk rfl 47 (.tmp 3) rfl w.heap.size 47 _ _ rfl HX1.out Try.underlying47 rfl Try.sizeMa ?_)
    | (go_at_call 40; refine (HPF.out g w1 (Lib.hid (HP1.out.mono (fun _ h => h.elim))) (Lib.hid ⟨hK.out.later HB4.out, fun h0 ad e => pen_free HP1.out (by obtain ⟨ad1, e1, h1, -⟩ := hK.out.2 h0; rw [e] at e1; injection e1 with e1; subst e1; exact h1) HB4.out.size HGE.out⟩)).mono ?_; rintro en w2 ⟨A1, c1, rfl, -, hs, hk⟩
       have hs : Pen (fun _ => False) g (mapF (wMd g) [] x).1 w2 := hs
       rw [w_map, List.nil_append, HYS.out] at hs
       have HK := Lib.hid hk
       obtain ⟨pv, pB, pO, -, -⟩ := hs.out
       obtain ⟨A9, c9, rfl, -, -⟩ := own_slice pO
       have z0 := pB.cell 0
       have HR := Lib.hid (Reads.of_own pO)
       clear hs hk pB pO))
  go_ret
  exact ⟨_, _, rfl, HR.out, HB4.out.trans (stp_below HK.out HB4.out.size (fun k hk => (pen_free HP1.out hk HB4.out.size HGE.out).wr))⟩
set_option maxRecDepth 100000 in
set_option maxHeartbeats 4000000 in
theorem rput_cmd (A : Option Addr) (c : Nat) (x : CmdT) (w : World) (hK : Hid (Reads w w.heap.size 2 A x.mem.length (mcells x.mem))) (HO : CmdOk x) :
    Calls Try.prog 47 #[.slice none 0 0, .agg #[.int .i64 x.kind, .int .u64 (x.client : Int), .int .u64 (x.seq : Int), .string (strOf x.key), .int .i64 x.size, .int .u32 (x.sum : Int), .int .u64 (x.version : Int), .int .u64 (x.epoch : Int), .int .i64 x.group, .int .i64 x.node, .bool x.up, .int .u64 (x.id.ver : Int), .int .i64 x.id.idx, .int .u64 (x.id.ep : Int), .int .u64 (x.mep : Int), .slice A x.mem.length c]] w (RetO (pCmd x) w) := by
  obtain ⟨ys, hys⟩ : ∃ ys, pCmd x = ys := ⟨_, rfl⟩
  have HYS := Lib.hid hys
  rw [hys]
  clear hys
  obtain ⟨w0, ew0⟩ : ∃ w0, w.alloc (.cells #[.int .i64 x.kind, .int .u64 (x.client : Int), .int .u64 (x.seq : Int), .string (strOf x.key), .int .i64 x.size, .int .u32 (x.sum : Int), .int .u64 (x.version : Int), .int .u64 (x.epoch : Int), .int .i64 x.group, .int .i64 x.node, .bool x.up, .int .u64 (x.id.ver : Int), .int .i64 x.id.idx, .int .u64 (x.id.ep : Int), .int .u64 (x.mep : Int), .slice A x.mem.length c] 56) = w0 := ⟨_, rfl⟩
  have hb : Below w.heap.size w (w.alloc (.cells #[.int .i64 x.kind, .int .u64 (x.client : Int), .int .u64 (x.seq : Int), .string (strOf x.key), .int .i64 x.size, .int .u32 (x.sum : Int), .int .u64 (x.version : Int), .int .u64 (x.epoch : Int), .int .i64 x.group, .int .i64 x.node, .bool x.up, .int .u64 (x.id.ver : Int), .int .i64 x.id.idx, .int .u64 (x.id.ep : Int), .int .u64 (x.mep : Int), .slice A x.mem.length c] 56)) := (Below.refl _ _).alloc (Nat.le_refl _) _
  have hx : Blk (w.alloc (.cells #[.int .i64 x.kind, .int .u64 (x.client : Int), .int .u64 (x.seq : Int), .string (strOf x.key), .int .i64 x.size, .int .u32 (x.sum : Int), .int .u64 (x.version : Int), .int .u64 (x.epoch : Int), .int .i64 x.group, .int .i64 x.node, .bool x.up, .int .u64 (x.id.ver : Int), .int .i64 x.id.idx, .int .u64 (x.id.ep : Int), .int .u64 (x.mep : Int), .slice A x.mem.length c] 56)) w.heap.size 56 #[.int .i64 x.kind, .int .u64 (x.client : Int), .int .u64 (x.seq : Int), .string (strOf x.key), .int .i64 x.size, .int .u32 (x.sum : Int), .int .u64 (x.version : Int), .int .u64 (x.epoch : Int), .int .i64 x.group, .int .i64 x.node, .bool x.up, .int .u64 (x.id.ver : Int), .int .i64 x.id.idx, .int .u64 (x.id.ep : Int), .int .u64 (x.mep : Int), .slice A x.mem.length c] := Blk.new w _ _
  rw [ew0] at hb hx
  have HB0 := Lib.hid hb
  have HX0 := Lib.hid hx
  clear hb hx
  have HPF := Lib.hid (fun (g : Nat) (w1 : World) hS hK1 => pf_cmd (wMd g) (wMd_ok g) [] A c x w1 hS hK1 HO (Lib.hid (fun h => by cases h)) (Lib.hid (by show 0 + 22020400 ≤ 70000000000000; omega)))
  go_enter Try.func47, Try.ntmps47
  go_wp2_with (first
    | (go_at_call 68; refine (pen_writer none 0 0 [] _ Reads.none_ (by omega)).mono ?_; rintro en w1 ⟨g, rfl, hg, hb, hp⟩
       have HB4 := Lib.hid (HB0.out.trans (hb.mono HB0.out.size))
       have HP1 := Lib.hid (hp.mono (H' := fun k => k < w.heap.size) (fun k hk => .inl (Nat.lt_of_lt_of_le hk HB0.out.size)))
       have HGE := Lib.hid (show w.heap.size ≤ g from Nat.le_trans HB0.out.size hg)
       have HX1 := Lib.hid (HX0.out.below hb HX0.out.lt)
       clear hg hb hp ew0)
    | (refine wpl_load_blk rfl 56 (.tmp 3) rfl w.heap.size 56 _ _ rfl HX1.out Try.underlying56 rfl Try.sizeC ?_)
    | (go_at_call 46; refine (HPF.out g w1 (Lib.hid (HP1.out.mono (fun _ h => h.elim))) (Lib.hid ⟨hK.out.later HB4.out, fun h0 ad e => pen_free HP1.out (by obtain ⟨ad1, e1, h1, -⟩ := hK.out.2 h0; rw [e] at e1; injection e1 with e1; subst e1; exact h1) HB4.out.size HGE.out⟩)).mono ?_; rintro en w2 ⟨A1, c1, rfl, -, hs, hk⟩
       have hs : Pen (fun _ => False) g (cmdF (wMd g) [] x).1 w2 := hs
       rw [w_cmd, List.nil_append, HYS.out] at hs
       have HK := Lib.hid hk
       obtain ⟨pv, pB, pO, -, -⟩ := hs.out
       obtain ⟨A9, c9, rfl, -, -⟩ := own_slice pO
       have z0 := pB.cell 0
       have HR := Lib.hid (Reads.of_own pO)
       clear hs hk pB pO))
  go_ret
  exact ⟨_, _, rfl, HR.out, HB4.out.trans (stp_below HK.out HB4.out.size (fun k hk => (pen_free HP1.out hk HB4.out.size HGE.out).wr))⟩
set_option maxRecDepth 100000 in
set_option maxHeartbeats 4000000 in
theorem rput_entry (A : Option Addr) (c : Nat) (B : Option Addr) (d : Nat) (E : Option Addr) (f : Nat) (x : EntT) (w : World) (hK : Hid (Reads w w.heap.size 2 A x.cmd.mem.length (mcells x.cmd.mem))) (hJ : Hid (Reads w w.heap.size 1 B x.voters.length (x.voters.map iv))) (hI : Hid (Reads w w.heap.size 1 E x.learners.length (x.learners.map iv))) (HO : EntOk x) :
    Calls Try.prog 54 #[.slice none 0 0, .agg #[.int .u64 (x.index : Int), .int .u64 (x.term : Int), .int .i64 x.kind, .int .i64 x.cmd.kind, .int .u64 (x.cmd.client : Int), .int .u64 (x.cmd.seq : Int), .string (strOf x.cmd.key), .int .i64 x.cmd.size, .int .u32 (x.cmd.sum : Int), .int .u64 (x.cmd.version : Int), .int .u64 (x.cmd.epoch : Int), .int .i64 x.cmd.group, .int .i64 x.cmd.node, .bool x.cmd.up, .int .u64 (x.cmd.id.ver : Int), .int .i64 x.cmd.id.idx, .int .u64 (x.cmd.id.ep : Int), .int .u64 (x.cmd.mep : Int), .slice A x.cmd.mem.length c, .slice B x.voters.length d, .slice E x.learners.length f]] w (RetO (pEnt x) w) := by
  obtain ⟨ys, hys⟩ : ∃ ys, pEnt x = ys := ⟨_, rfl⟩
  have HYS := Lib.hid hys
  rw [hys]
  clear hys
  obtain ⟨w0, ew0⟩ : ∃ w0, w.alloc (.cells #[.int .u64 (x.index : Int), .int .u64 (x.term : Int), .int .i64 x.kind, .int .i64 x.cmd.kind, .int .u64 (x.cmd.client : Int), .int .u64 (x.cmd.seq : Int), .string (strOf x.cmd.key), .int .i64 x.cmd.size, .int .u32 (x.cmd.sum : Int), .int .u64 (x.cmd.version : Int), .int .u64 (x.cmd.epoch : Int), .int .i64 x.cmd.group, .int .i64 x.cmd.node, .bool x.cmd.up, .int .u64 (x.cmd.id.ver : Int), .int .i64 x.cmd.id.idx, .int .u64 (x.cmd.id.ep : Int), .int .u64 (x.cmd.mep : Int), .slice A x.cmd.mem.length c, .slice B x.voters.length d, .slice E x.learners.length f] 68) = w0 := ⟨_, rfl⟩
  have hb : Below w.heap.size w (w.alloc (.cells #[.int .u64 (x.index : Int), .int .u64 (x.term : Int), .int .i64 x.kind, .int .i64 x.cmd.kind, .int .u64 (x.cmd.client : Int), .int .u64 (x.cmd.seq : Int), .string (strOf x.cmd.key), .int .i64 x.cmd.size, .int .u32 (x.cmd.sum : Int), .int .u64 (x.cmd.version : Int), .int .u64 (x.cmd.epoch : Int), .int .i64 x.cmd.group, .int .i64 x.cmd.node, .bool x.cmd.up, .int .u64 (x.cmd.id.ver : Int), .int .i64 x.cmd.id.idx, .int .u64 (x.cmd.id.ep : Int), .int .u64 (x.cmd.mep : Int), .slice A x.cmd.mem.length c, .slice B x.voters.length d, .slice E x.learners.length f] 68)) := (Below.refl _ _).alloc (Nat.le_refl _) _
  have hx : Blk (w.alloc (.cells #[.int .u64 (x.index : Int), .int .u64 (x.term : Int), .int .i64 x.kind, .int .i64 x.cmd.kind, .int .u64 (x.cmd.client : Int), .int .u64 (x.cmd.seq : Int), .string (strOf x.cmd.key), .int .i64 x.cmd.size, .int .u32 (x.cmd.sum : Int), .int .u64 (x.cmd.version : Int), .int .u64 (x.cmd.epoch : Int), .int .i64 x.cmd.group, .int .i64 x.cmd.node, .bool x.cmd.up, .int .u64 (x.cmd.id.ver : Int), .int .i64 x.cmd.id.idx, .int .u64 (x.cmd.id.ep : Int), .int .u64 (x.cmd.mep : Int), .slice A x.cmd.mem.length c, .slice B x.voters.length d, .slice E x.learners.length f] 68)) w.heap.size 68 #[.int .u64 (x.index : Int), .int .u64 (x.term : Int), .int .i64 x.kind, .int .i64 x.cmd.kind, .int .u64 (x.cmd.client : Int), .int .u64 (x.cmd.seq : Int), .string (strOf x.cmd.key), .int .i64 x.cmd.size, .int .u32 (x.cmd.sum : Int), .int .u64 (x.cmd.version : Int), .int .u64 (x.cmd.epoch : Int), .int .i64 x.cmd.group, .int .i64 x.cmd.node, .bool x.cmd.up, .int .u64 (x.cmd.id.ver : Int), .int .i64 x.cmd.id.idx, .int .u64 (x.cmd.id.ep : Int), .int .u64 (x.cmd.mep : Int), .slice A x.cmd.mem.length c, .slice B x.voters.length d, .slice E x.learners.length f] := Blk.new w _ _
  rw [ew0] at hb hx
  have HB0 := Lib.hid hb
  have HX0 := Lib.hid hx
  clear hb hx
  have HPF := Lib.hid (fun (g : Nat) (w1 : World) hS hK1 hJ1 hI1 => pf_entry (wMd g) (wMd_ok g) [] A c B d E f x w1 hS hK1 hJ1 hI1 HO (Lib.hid (fun h => by cases h)) (Lib.hid (fun h => by cases h)) (Lib.hid (fun h => by cases h)) (Lib.hid (by show 0 + 42992040 ≤ 70000000000000; omega)))
  go_enter Try.func54, Try.ntmps54
  go_wp2_with (first
    | (go_at_call 68; refine (pen_writer none 0 0 [] _ Reads.none_ (by omega)).mono ?_; rintro en w1 ⟨g, rfl, hg, hb, hp⟩
       have HB4 := Lib.hid (HB0.out.trans (hb.mono HB0.out.size))
       have HP1 := Lib.hid (hp.mono (H' := fun k => k < w.heap.size) (fun k hk => .inl (Nat.lt_of_lt_of_le hk HB0.out.size)))
       have HGE := Lib.hid (show w.heap.size ≤ g from Nat.le_trans HB0.out.size hg)
       have HX1 := Lib.hid (HX0.out.below hb HX0.out.lt)
       clear hg hb hp ew0)
    | (refine wpl_load_blk rfl 68 (.tmp 3) rfl w.heap.size 68 _ _ rfl HX1.out Try.underlying68 rfl Try.sizeE ?_)
    | (go_at_call 86; refine (HPF.out g w1 (Lib.hid (HP1.out.mono (fun _ h => h.elim))) (Lib.hid ⟨hK.out.later HB4.out, fun h0 ad e => pen_free HP1.out (by obtain ⟨ad1, e1, h1, -⟩ := hK.out.2 h0; rw [e] at e1; injection e1 with e1; subst e1; exact h1) HB4.out.size HGE.out⟩) (Lib.hid ⟨hJ.out.later HB4.out, fun h0 ad e => pen_free HP1.out (by obtain ⟨ad1, e1, h1, -⟩ := hJ.out.2 h0; rw [e] at e1; injection e1 with e1; subst e1; exact h1) HB4.out.size HGE.out⟩) (Lib.hid ⟨hI.out.later HB4.out, fun h0 ad e => pen_free HP1.out (by obtain ⟨ad1, e1, h1, -⟩ := hI.out.2 h0; rw [e] at e1; injection e1 with e1; subst e1; exact h1) HB4.out.size HGE.out⟩)).mono ?_; rintro en w2 ⟨A1, c1, A2, c2, A3, c3, rfl, -, -, -, hs, hk⟩
       have hs : Pen (fun _ => False) g (entF (wMd g) [] x).1 w2 := hs
       rw [w_ent, List.nil_append, HYS.out] at hs
       have HK := Lib.hid hk
       obtain ⟨pv, pB, pO, -, -⟩ := hs.out
       obtain ⟨A9, c9, rfl, -, -⟩ := own_slice pO
       have z0 := pB.cell 0
       have HR := Lib.hid (Reads.of_own pO)
       clear hs hk pB pO))
  go_ret
  exact ⟨_, _, rfl, HR.out, HB4.out.trans (stp_below HK.out HB4.out.size (fun k hk => (pen_free HP1.out hk HB4.out.size HGE.out).wr))⟩
end Go.Proofs.Ythgiafjiemiifaa
