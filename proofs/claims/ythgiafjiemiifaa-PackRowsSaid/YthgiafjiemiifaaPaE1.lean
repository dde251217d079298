/-
  THE SAME ENTRY. (printed by gen_pas4.py)
-/
import Derived.Test.YthgiafjiemiifaaPaL2
import Derived.Deep.Cut
namespace Go.Proofs.Ythgiafjiemiifaa
open Go.RowKit OctMath
set_option linter.unusedVariables false
set_option maxRecDepth 100000 in
set_option maxHeartbeats 4000000 in
theorem same_entry1 (g1 g2 : Nat) (A : Option Addr) (c : Nat) (B : Option Addr) (d : Nat) (E : Option Addr) (f : Nat) (x : EntT) (A9 : Option Addr) (c9 : Nat) (B9 : Option Addr) (d9 : Nat) (E9 : Option Addr) (f9 : Nat) (w : World) (hK : Hid (Reads w w.heap.size 2 A x.cmd.mem.length (mcells x.cmd.mem))) (hJ : Hid (Reads w w.heap.size 1 B x.voters.length (x.voters.map iv))) (hI : Hid (Reads w w.heap.size 1 E x.learners.length (x.learners.map iv))) (hK9 : Hid (Reads w w.heap.size 2 A9 x.cmd.mem.length (mcells x.cmd.mem))) (hJ9 : Hid (Reads w w.heap.size 1 B9 x.voters.length (x.voters.map iv))) (hI9 : Hid (Reads w w.heap.size 1 E9 x.learners.length (x.learners.map iv))) (HO : EntOk x) (HA : Hid (Blk w g1 68 #[.int .u64 (x.index : Int), .int .u64 (x.term : Int), .int .i64 x.kind, .int .i64 x.cmd.kind, .int .u64 (x.cmd.client : Int), .int .u64 (x.cmd.seq : Int), .string (strOf x.cmd.key), .int .i64 x.cmd.size, .int .u32 (x.cmd.sum : Int), .int .u64 (x.cmd.version : Int), .int .u64 (x.cmd.epoch : Int), .int .i64 x.cmd.group, .int .i64 x.cmd.node, .bool x.cmd.up, .int .u64 (x.cmd.id.ver : Int), .int .i64 x.cmd.id.idx, .int .u64 (x.cmd.id.ep : Int), .int .u64 (x.cmd.mep : Int), .slice A x.cmd.mem.length c, .slice B x.voters.length d, .slice E x.learners.length f])) (HB : Hid (Blk w g2 68 #[.int .u64 (x.index : Int), .int .u64 (x.term : Int), .int .i64 x.kind, .int .i64 x.cmd.kind, .int .u64 (x.cmd.client : Int), .int .u64 (x.cmd.seq : Int), .string (strOf x.cmd.key), .int .i64 x.cmd.size, .int .u32 (x.cmd.sum : Int), .int .u64 (x.cmd.version : Int), .int .u64 (x.cmd.epoch : Int), .int .i64 x.cmd.group, .int .i64 x.cmd.node, .bool x.cmd.up, .int .u64 (x.cmd.id.ver : Int), .int .i64 x.cmd.id.idx, .int .u64 (x.cmd.id.ep : Int), .int .u64 (x.cmd.mep : Int), .slice A9 x.cmd.mem.length c9, .slice B9 x.voters.length d9, .slice E9 x.learners.length f9])) :
    Calls Try.prog 24 #[.slice (some ⟨g1, 0, none⟩) 1 1, .slice (some ⟨g2, 0, none⟩) 1 1] w (fun e w' => e = .returned (.bool true) ∧ Below w.heap.size w w') := by
  obtain ⟨ys, hys⟩ : ∃ ys, pEnt x = ys := ⟨_, rfl⟩
  have HP1 := Lib.hid (fun W kK kJ kI => rput_entry A c B d E f x W kK kJ kI HO)
  have HP2 := Lib.hid (fun W kK kJ kI => rput_entry A9 c9 B9 d9 E9 f9 x W kK kJ kI HO)
  rw [hys] at HP1 HP2
  clear hys HO
  go_enter Try.func24, Try.ntmps24
  go_wp2
  go_loopw [5] (fun vi wr => (vi = .int .i64 0 ∧ wr = w) ∨ (vi = .int .i64 1 ∧ Hid (Below w.heap.size w wr))) (fun vi _ => 1 - (intOf vi).toNat)
  case atStart => exact .inl ⟨rfl, rfl⟩
  case round =>
  rcases hrel with ⟨rfl, rfl⟩ | ⟨rfl, hb⟩
  rotate_left
  · go_wp2
    go_ret
    exact ⟨rfl, hb.out⟩
  go_upto_region 6 with fail
  refine wp_region_late (S0 := fun _ => True) (S := fun w' => Blk w' g1 68 #[.int .u64 (x.index : Int), .int .u64 (x.term : Int), .int .i64 x.kind, .int .i64 x.cmd.kind, .int .u64 (x.cmd.client : Int), .int .u64 (x.cmd.seq : Int), .string (strOf x.cmd.key), .int .i64 x.cmd.size, .int .u32 (x.cmd.sum : Int), .int .u64 (x.cmd.version : Int), .int .u64 (x.cmd.epoch : Int), .int .i64 x.cmd.group, .int .i64 x.cmd.node, .bool x.cmd.up, .int .u64 (x.cmd.id.ver : Int), .int .i64 x.cmd.id.idx, .int .u64 (x.cmd.id.ep : Int), .int .u64 (x.cmd.mep : Int), .slice A x.cmd.mem.length c, .slice B x.voters.length d, .slice E x.learners.length f] ∧ Blk w' g2 68 #[.int .u64 (x.index : Int), .int .u64 (x.term : Int), .int .i64 x.kind, .int .i64 x.cmd.kind, .int .u64 (x.cmd.client : Int), .int .u64 (x.cmd.seq : Int), .string (strOf x.cmd.key), .int .i64 x.cmd.size, .int .u32 (x.cmd.sum : Int), .int .u64 (x.cmd.version : Int), .int .u64 (x.cmd.epoch : Int), .int .i64 x.cmd.group, .int .i64 x.cmd.node, .bool x.cmd.up, .int .u64 (x.cmd.id.ver : Int), .int .i64 x.cmd.id.idx, .int .u64 (x.cmd.id.ep : Int), .int .u64 (x.cmd.mep : Int), .slice A9 x.cmd.mem.length c9, .slice B9 x.voters.length d9, .slice E9 x.learners.length f9]) 12 13 (by kernel_rfl) rfl ⟨trivial, HA.out.drew, HB.out.drew⟩ (fun wd hwd hH => ?_)
  have nd := Lib.hid (show Below wr.heap.size wr wd from by rw [hwd]; exact (Below.refl _ _).drew)
  clear hwd
  refine wpAnyT_stay 0 (v := ?_) rfl (by kernel_rfl) (fun _ _ _ h => h) (Or.inl ⟨by rfl, ?_⟩) ⟨hH.1, fun _ => hH.2⟩ ?_
  rotate_left
  · (intro wx hx; go_simp <;> with_reducible rfl)
  try simp only [Act.put, List.setIfInBounds_toArray, List.set_cons_zero, List.set_cons_succ]
  refine wpAnyT_stay 1 (v := ?_) rfl (by kernel_rfl) (fun _ _ _ h => h) (Or.inl ⟨by rfl, ?_⟩) ⟨hH.1, fun _ => hH.2⟩ ?_
  rotate_left
  · (intro wx hx; go_simp <;> with_reducible rfl)
  try simp only [Act.put, List.setIfInBounds_toArray, List.set_cons_zero, List.set_cons_succ]
  refine wpAnyT_stay 2 (v := ?_) rfl (by kernel_rfl) (fun _ _ _ h => h) (Or.inl ⟨by rfl, ?_⟩) ⟨hH.1, fun _ => hH.2⟩ ?_
  rotate_left
  · (intro wx hx; go_simp <;> with_reducible rfl)
  try simp only [Act.put, List.setIfInBounds_toArray, List.set_cons_zero, List.set_cons_succ]
  refine wpAnyT_take 3 rfl (by kernel_rfl) (fun _ _ _ h => h) (yields_load_blk rfl 68 (.tmp 19) rfl g1 68 #[.int .u64 (x.index : Int), .int .u64 (x.term : Int), .int .i64 x.kind, .int .i64 x.cmd.kind, .int .u64 (x.cmd.client : Int), .int .u64 (x.cmd.seq : Int), .string (strOf x.cmd.key), .int .i64 x.cmd.size, .int .u32 (x.cmd.sum : Int), .int .u64 (x.cmd.version : Int), .int .u64 (x.cmd.epoch : Int), .int .i64 x.cmd.group, .int .i64 x.cmd.node, .bool x.cmd.up, .int .u64 (x.cmd.id.ver : Int), .int .i64 x.cmd.id.idx, .int .u64 (x.cmd.id.ep : Int), .int .u64 (x.cmd.mep : Int), .slice A x.cmd.mem.length c, .slice B x.voters.length d, .slice E x.learners.length f] _ rfl (fun w' hw' => hw'.1) Try.underlying68 rfl Try.sizeE) hH ?_
  try simp only [Act.put, List.setIfInBounds_toArray, List.set_cons_zero, List.set_cons_succ]
  refine wpAnyT_stay 6 (v := ?_) rfl (by kernel_rfl) (fun _ _ _ h => h) (Or.inl ⟨by rfl, ?_⟩) ⟨hH.1, fun _ => hH.2⟩ ?_
  rotate_left
  · (intro wx hx; go_simp <;> with_reducible rfl)
  try simp only [Act.put, List.setIfInBounds_toArray, List.set_cons_zero, List.set_cons_succ]
  refine wpAnyT_stay 7 (v := ?_) rfl (by kernel_rfl) (fun _ _ _ h => h) (Or.inl ⟨by rfl, ?_⟩) ⟨hH.1, fun _ => hH.2⟩ ?_
  rotate_left
  · (intro wx hx; go_simp <;> with_reducible rfl)
  try simp only [Act.put, List.setIfInBounds_toArray, List.set_cons_zero, List.set_cons_succ]
  refine wpAnyT_stay 8 (v := ?_) rfl (by kernel_rfl) (fun _ _ _ h => h) (Or.inl ⟨by rfl, ?_⟩) ⟨hH.1, fun _ => hH.2⟩ ?_
  rotate_left
  · (intro wx hx; go_simp <;> with_reducible rfl)
  try simp only [Act.put, List.setIfInBounds_toArray, List.set_cons_zero, List.set_cons_succ]
  refine wpAnyT_take 9 rfl (by kernel_rfl) (fun _ _ _ h => h) (yields_load_blk rfl 68 (.tmp 25) rfl g2 68 #[.int .u64 (x.index : Int), .int .u64 (x.term : Int), .int .i64 x.kind, .int .i64 x.cmd.kind, .int .u64 (x.cmd.client : Int), .int .u64 (x.cmd.seq : Int), .string (strOf x.cmd.key), .int .i64 x.cmd.size, .int .u32 (x.cmd.sum : Int), .int .u64 (x.cmd.version : Int), .int .u64 (x.cmd.epoch : Int), .int .i64 x.cmd.group, .int .i64 x.cmd.node, .bool x.cmd.up, .int .u64 (x.cmd.id.ver : Int), .int .i64 x.cmd.id.idx, .int .u64 (x.cmd.id.ep : Int), .int .u64 (x.cmd.mep : Int), .slice A9 x.cmd.mem.length c9, .slice B9 x.voters.length d9, .slice E9 x.learners.length f9] _ rfl (fun w' hw' => hw'.2) Try.underlying68 rfl Try.sizeE) hH ?_
  try simp only [Act.put, List.setIfInBounds_toArray, List.set_cons_zero, List.set_cons_succ]
  have H3 := Lib.hid (show ((strOf ys).toList == (strOf ys).toList) = true from by simp)
  refine wpAnyT_one 4 rfl (by kernel_rfl) (fun K hQ => ?_)
  go_simp
  (go_at_call 54; refine (HP1.out _ (Lib.hid (hK.out.later nd.out)) (Lib.hid (hJ.out.later nd.out)) (Lib.hid (hI.out.later nd.out))).mono ?_; rintro e w1 ⟨A7, cap1, rfl, r1, hb⟩; have R1 := Lib.hid r1; have HB1 := Lib.hid hb; clear r1 hb)
  refine hQ.out _ _ ⟨trivial, hH.2.1.below HB1.out hH.2.1.lt, hH.2.2.below HB1.out hH.2.2.lt⟩ (fun hH1 => ?_)
  clear hQ K
  try simp only [Act.put, List.setIfInBounds_toArray, List.set_cons_zero, List.set_cons_succ]
  refine wpAnyT_mono (S0' := fun w' => Reads w' w'.heap.size 1 A7 ys.length (ys.map bv)) (S' := fun w' => Blk w' g1 68 #[.int .u64 (x.index : Int), .int .u64 (x.term : Int), .int .i64 x.kind, .int .i64 x.cmd.kind, .int .u64 (x.cmd.client : Int), .int .u64 (x.cmd.seq : Int), .string (strOf x.cmd.key), .int .i64 x.cmd.size, .int .u32 (x.cmd.sum : Int), .int .u64 (x.cmd.version : Int), .int .u64 (x.cmd.epoch : Int), .int .i64 x.cmd.group, .int .i64 x.cmd.node, .bool x.cmd.up, .int .u64 (x.cmd.id.ver : Int), .int .i64 x.cmd.id.idx, .int .u64 (x.cmd.id.ep : Int), .int .u64 (x.cmd.mep : Int), .slice A x.cmd.mem.length c, .slice B x.voters.length d, .slice E x.learners.length f] ∧ Blk w' g2 68 #[.int .u64 (x.index : Int), .int .u64 (x.term : Int), .int .i64 x.kind, .int .i64 x.cmd.kind, .int .u64 (x.cmd.client : Int), .int .u64 (x.cmd.seq : Int), .string (strOf x.cmd.key), .int .i64 x.cmd.size, .int .u32 (x.cmd.sum : Int), .int .u64 (x.cmd.version : Int), .int .u64 (x.cmd.epoch : Int), .int .i64 x.cmd.group, .int .i64 x.cmd.node, .bool x.cmd.up, .int .u64 (x.cmd.id.ver : Int), .int .i64 x.cmd.id.idx, .int .u64 (x.cmd.id.ep : Int), .int .u64 (x.cmd.mep : Int), .slice A9 x.cmd.mem.length c9, .slice B9 x.voters.length d9, .slice E9 x.learners.length f9]) (fun _ _ => trivial) (fun _ h => h) _ _ _ _ ?_
  refine wpAnyT_stay 5 (v := ?_) rfl (by kernel_rfl) (fun _ _ _ h => h) (Or.inl ⟨by rfl, ?_⟩) ⟨R1.out, fun _ => hH1.2⟩ ?_
  rotate_left
  · (intro wx hx; have kc := run_conv_bytes (P := Try.prog) (src := 22) (dst := 9) (cap := cap1) Try.underlying22 Try.underlying5 Try.underlying9 hx; go_simp <;> with_reducible rfl)
  try simp only [Act.put, List.setIfInBounds_toArray, List.set_cons_zero, List.set_cons_succ]
  refine wpAnyT_one 10 rfl (by kernel_rfl) (fun K hQ => ?_)
  go_simp
  (go_at_call 54; refine (HP2.out _ (Lib.hid (hK9.out.later (nd.out.trans (HB1.out.mono nd.out.size)))) (Lib.hid (hJ9.out.later (nd.out.trans (HB1.out.mono nd.out.size)))) (Lib.hid (hI9.out.later (nd.out.trans (HB1.out.mono nd.out.size))))).mono ?_; rintro e w2 ⟨A8, cap2, rfl, r2, hb⟩; have R2 := Lib.hid r2; have HB2 := Lib.hid hb; clear r2 hb)
  refine hQ.out _ _ ⟨R1.out.later HB2.out, hH1.2.1.below HB2.out hH1.2.1.lt, hH1.2.2.below HB2.out hH1.2.2.lt⟩ (fun hH2 => ?_)
  clear hQ K
  try simp only [Act.put, List.setIfInBounds_toArray, List.set_cons_zero, List.set_cons_succ]
  refine wpAnyT_mono (S0' := fun w' => Reads w' w'.heap.size 1 A8 ys.length (ys.map bv) ∧ Reads w' w'.heap.size 1 A7 ys.length (ys.map bv)) (S' := fun w' => Blk w' g1 68 #[.int .u64 (x.index : Int), .int .u64 (x.term : Int), .int .i64 x.kind, .int .i64 x.cmd.kind, .int .u64 (x.cmd.client : Int), .int .u64 (x.cmd.seq : Int), .string (strOf x.cmd.key), .int .i64 x.cmd.size, .int .u32 (x.cmd.sum : Int), .int .u64 (x.cmd.version : Int), .int .u64 (x.cmd.epoch : Int), .int .i64 x.cmd.group, .int .i64 x.cmd.node, .bool x.cmd.up, .int .u64 (x.cmd.id.ver : Int), .int .i64 x.cmd.id.idx, .int .u64 (x.cmd.id.ep : Int), .int .u64 (x.cmd.mep : Int), .slice A x.cmd.mem.length c, .slice B x.voters.length d, .slice E x.learners.length f] ∧ Blk w' g2 68 #[.int .u64 (x.index : Int), .int .u64 (x.term : Int), .int .i64 x.kind, .int .i64 x.cmd.kind, .int .u64 (x.cmd.client : Int), .int .u64 (x.cmd.seq : Int), .string (strOf x.cmd.key), .int .i64 x.cmd.size, .int .u32 (x.cmd.sum : Int), .int .u64 (x.cmd.version : Int), .int .u64 (x.cmd.epoch : Int), .int .i64 x.cmd.group, .int .i64 x.cmd.node, .bool x.cmd.up, .int .u64 (x.cmd.id.ver : Int), .int .i64 x.cmd.id.idx, .int .u64 (x.cmd.id.ep : Int), .int .u64 (x.cmd.mep : Int), .slice A9 x.cmd.mem.length c9, .slice B9 x.voters.length d9, .slice E9 x.learners.length f9]) (fun _ h => h.2) (fun _ h => h) _ _ _ _ ?_
  refine wpAnyT_stay 11 (v := ?_) rfl (by kernel_rfl) (fun _ _ _ h => h) (Or.inl ⟨by rfl, ?_⟩) ⟨⟨R2.out, hH2.1⟩, fun _ => hH2.2⟩ ?_
  rotate_left
  · (intro wx hx; have kc := run_conv_bytes (P := Try.prog) (src := 22) (dst := 9) (cap := cap2) Try.underlying22 Try.underlying5 Try.underlying9 hx.1; go_simp <;> with_reducible rfl)
  try simp only [Act.put, List.setIfInBounds_toArray, List.set_cons_zero, List.set_cons_succ]
  refine wpAnyT_last 12 rfl (by kernel_rfl) (by decide) (fun K hQ => ?_)
  have h3 := H3.out
  go_simp
  refine hQ.out _ _ ⟨R2.out, hH2.1⟩ (fun hH7 => ?_)
  clear hQ K
  try simp only [Act.put, List.setIfInBounds_toArray, List.set_cons_zero, List.set_cons_succ]
  refine wpAnyT_done (by kernel_rfl) ?_ _
  clear hH hH1 hH2 hH7
  go_wp2
  exact ⟨.inr ⟨rfl, Lib.hid ((nd.out.trans (HB1.out.mono nd.out.size)).trans (HB2.out.mono (Nat.le_trans nd.out.size HB1.out.size)))⟩, by simp [intOf]⟩
end Go.Proofs.Ythgiafjiemiifaa
