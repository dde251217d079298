/-
  What must come at any rate: the laws' heads. (joined out of WirH1 by shake.py)
-/
import Derived.Test.YtlnneacgllhdhaaGreatDoorWpv33
import Derived.Test.YtlnneacgllhdhaaGreatDoorWpv35
section
namespace Go.Proofs.YtlnneacgllhdhaaGreatDoor
open Go.RowKit OctMath
set_option linter.unusedVariables false
set_option linter.unusedSimpArgs false
def pingT : MsgT := ⟨18, 1, 2, 0, 0, 0, 0, 3, false, false, [], [], [], hdZ, [], 0, 0, 0, [], 0, []⟩
theorem ping_put : pMsg pingT = pingB := by
  simp [pMsg, pingT, hdZ, pInt, zz, pConf, pList, pHd, pId, pText, pFlag, putN_small, pingB]
theorem ping_ok : MsgOk pingT := by
  refine ⟨?_, ?_, ?_, ?_, ?_, ?_, ?_, ?_, ?_, ?_, ?_, ?_, ?_, ?_, ?_, ?_, ?_, ?_⟩
  all_goals first | decide | (refine ⟨?_, ?_⟩ <;> first | decide | (intro y h; cases h) | (refine ⟨?_, ?_⟩ <;> first | decide | (intro y h; cases h))) | (constructor <;> decide) | skip
theorem ping_read : rMsg pingB 0 = some (pingT, 27) := by
  have h := (got_msg ping_ok).rd [] []
  rw [ping_put] at h
  simpa [pingB] using h
def heads_post (w : World) (e : Ending) (w' : World) : Prop := e = .returned (.bool true) ∧ Below w.heap.size w w'
theorem wpl_want2 {P : Program} {ops : Array Oper} {Q : Exit → Act → World → Prop} {rest : List Oper} {o : Oper} {a : Act} {w : World} (hw : Region.wanted o (yielded ops a.tmps) = true) (h : o.wp P a w (wpList P ops Q rest) Q) : wpList P ops Q (o :: rest) a w := by
  unfold wpList
  rw [if_pos hw]
  exact .inl h
theorem wp_load_blk2 {P : Program} {op : Oper} {a : Act} {w : World} {K : Act → World → Prop} {Q : Exit → Act → World → Prop} (ty : TypeId) (x : Operand) (ho : op.op = .load ty x)
    (g : Nat) (t : TypeId) (cs : Array Value) (d : TypeDesc) (hx : a.eval x = .pointer (some ⟨g, 0, none⟩)) (hB : Blk w g t cs) (hu : P.underlying ty = some d) (hd : d.isRow = true) (hi : (P.info? ty).map (·.size) = some cs.size)
    (h : K (a.put op.dst (.agg cs)) w) : op.wp P a w K Q :=
  wp_load_mid ty x ho g 0 hx cs.toList d (fun j v hv => by rw [Nat.zero_add, hB.cell]; simpa using hv) hu hd (by simpa using hi) (by simpa using h)
theorem seal_byt {b : List Nat} (hb : ∀ x ∈ b, x < 256) : ∀ x ∈ seal_ b, x < 256 := fun x hx => by
  unfold seal_ at hx
  rcases List.mem_append.1 hx with h | h
  · exact hb x h
  · exact wordL_byt _ (crc_lt hb) x h
theorem fr_byt {b : List Nat} (hb : ∀ x ∈ b, x < 256) (hl : b.length ≤ 4194304) : Byt (fr b) := fun x hx => by
  unfold fr at hx
  rcases List.mem_append.1 hx with h | h
  · exact seal_byt (wordL_byt' hl) x h
  · exact seal_byt hb x h
theorem frAt97 : frAt (fr [97]) 0 = (0, [97], 13) := by
  have h := nxt_fr (b := [97]) (by simp) (by simp) []
  rw [List.append_nil] at h
  have h2 := frAt_ok (xs := fr [97]) (p := 0) (by simp) (by rw [List.drop_zero, h])
  rw [List.drop_zero, h] at h2
  exact h2
theorem frAtNil : frAt [] 0 = (40, [], 0) := by
  have e : nxt ([] : List Nat) = (40, []) := nxt_bad (s := []) (by decide)
  have h2 := frAt_bad (xs := []) (p := 0) (by simp) (by rw [List.drop_zero, e]; decide)
  rw [List.drop_zero, e] at h2
  exact h2
set_option maxRecDepth 100000 in
set_option maxHeartbeats 8000000 in
theorem heads_any (w : World) (hg : Hid (GE w)) : Calls Tryz.prog 13 #[] w (heads_post w) := by
  have HG0 := hg
  obtain ⟨wa, ea⟩ : ∃ wa, w.alloc (.cells #[.int .u8 97] 5) = wa := ⟨_, rfl⟩
  have hba : Below w.heap.size w (w.alloc (.cells #[.int .u8 97] 5)) := (Below.refl _ _).alloc (Nat.le_refl _) _
  have hra := Reads.lit w 5 [.int .u8 97] 1 1 rfl
  have hsa : (w.alloc (.cells #[.int .u8 97] 5)).heap.size = w.heap.size + 1 := by simp
  rw [ea] at hba hra hsa
  have HF := Lh (Frame_any (some ⟨w.heap.size, 0, none⟩) 1 1 [97] wa (Lh ⟨by rw [hsa]; exact hra, by intro x hx; simp at hx; omega, Nat.le_refl _, by unfold maxLen; omega⟩))
  have KA := Lh hba
  clear hba hra hsa
  go_enter Tryz.func13, Tryz.ntmps13
  go_wp2_with (rw [ea])
  clear ea
  refine HF.out.mono ?_
  rintro e w1 ⟨hb, h1⟩
  rw [if_neg (by decide)] at h1
  obtain ⟨v1, rfl, ho⟩ := h1
  obtain ⟨A1, c1, rfl, hc1, hc2⟩ := own_slice ho
  have K1 := Lh (KA.out.trans (hb.mono KA.out.size))
  have R1 : Hid (RdB w1 A1 13 c1 (fr [97])) := Lh ⟨Reads.of_own ho, fr_byt (by simp) (by simp), hc1, hc2⟩
  clear hb ho hc1 hc2 HF KA
  go_wp2_with fail
  refine (Next_any A1 13 c1 (fr [97]) 0 w1 R1 (Lh (hg.out.later K1.out)) (by omega)).mono ?_
  rintro e w2 ⟨hb, A2, n2, c2, rfl, r2⟩
  rw [frAt97] at r2
  simp only [frAt97]
  have hn2 := r2.len
  simp only [List.length_singleton] at hn2
  subst hn2
  have K2 := Lh (K1.out.trans (hb.mono K1.out.size))
  have R2 := Lh r2
  clear hb r2 K1 R1
  go_wp2_with fail
  refine (Next_any none 0 0 [] 0 w2 (Lh (rdb_nil _)) (Lh (hg.out.later K2.out)) (by omega)).mono ?_
  rintro e w3 ⟨hb, A3, n3, c3, rfl, r3⟩
  simp only [frAtNil]
  have K3 := Lh (K2.out.trans (hb.mono K2.out.size))
  have R3 := Lh (R2.out.later hb)
  clear hb r3 K2 R2
  obtain ⟨b, eb⟩ : ∃ b, w3.heap.size = b := ⟨_, rfl⟩
  have hB : Blk (w3.alloc (.cells #[.int .i64 0, .int .i64 0, .int .i64 0, .int .u64 0, .int .u64 0, .int .u64 0, .int .u64 0, .int .u64 0, .bool false, .bool false, .slice none 0 0, .slice none 0 0, .slice none 0 0, .int .u64 0, .int .i64 0, .int .u64 0, .int .i64 0, .int .i64 0, .int .i64 0, .int .u32 0, .slice none 0 0, .int .u64 0, .int .u64 0, .int .i64 0, .string ⟨#[]⟩, .int .i64 0, .slice none 0 0] 38)) w3.heap.size 38 #[.int .i64 0, .int .i64 0, .int .i64 0, .int .u64 0, .int .u64 0, .int .u64 0, .int .u64 0, .int .u64 0, .bool false, .bool false, .slice none 0 0, .slice none 0 0, .slice none 0 0, .int .u64 0, .int .i64 0, .int .u64 0, .int .i64 0, .int .i64 0, .int .i64 0, .int .u32 0, .slice none 0 0, .int .u64 0, .int .u64 0, .int .i64 0, .string ⟨#[]⟩, .int .i64 0, .slice none 0 0] := Blk.new w3 _ _
  have hb : Below w3.heap.size w3 (w3.alloc (.cells #[.int .i64 0, .int .i64 0, .int .i64 0, .int .u64 0, .int .u64 0, .int .u64 0, .int .u64 0, .int .u64 0, .bool false, .bool false, .slice none 0 0, .slice none 0 0, .slice none 0 0, .int .u64 0, .int .i64 0, .int .u64 0, .int .i64 0, .int .i64 0, .int .i64 0, .int .u32 0, .slice none 0 0, .int .u64 0, .int .u64 0, .int .i64 0, .string ⟨#[]⟩, .int .i64 0, .slice none 0 0] 38)) := (Below.refl _ _).alloc (Nat.le_refl _) _
  obtain ⟨w4, ew4⟩ : ∃ w4, w3.alloc (.cells #[.int .i64 0, .int .i64 0, .int .i64 0, .int .u64 0, .int .u64 0, .int .u64 0, .int .u64 0, .int .u64 0, .bool false, .bool false, .slice none 0 0, .slice none 0 0, .slice none 0 0, .int .u64 0, .int .i64 0, .int .u64 0, .int .i64 0, .int .i64 0, .int .i64 0, .int .u32 0, .slice none 0 0, .int .u64 0, .int .u64 0, .int .i64 0, .string ⟨#[]⟩, .int .i64 0, .slice none 0 0] 38) = w4 := ⟨_, rfl⟩
  rw [ew4] at hB hb
  have K4 := Lh (K3.out.trans (hb.mono K3.out.size))
  have R4 := Lh (R3.out.later hb)
  have hlb := K3.out.size
  rw [eb] at hB hlb
  have HLB := Lh hlb
  clear hb K3 R3 hlb
  have B4 := Lh hB
  clear hB
  go_wp2_with (first | rw [ew4] | rw [eb] | (refine wpl_store_blk rfl 38 (.tmp 9) (.tmp 29) rfl b 38 #[.int .i64 0, .int .i64 0, .int .i64 0, .int .u64 0, .int .u64 0, .int .u64 0, .int .u64 0, .int .u64 0, .bool false, .bool false, .slice none 0 0, .slice none 0 0, .slice none 0 0, .int .u64 0, .int .i64 0, .int .u64 0, .int .i64 0, .int .i64 0, .int .i64 0, .int .u32 0, .slice none 0 0, .int .u64 0, .int .u64 0, .int .i64 0, .string ⟨#[]⟩, .int .i64 0, .slice none 0 0] (pingCs 0 3) rfl rfl B4.out rfl sizeMsg rfl ?_; intro w5 hB5 hO5) | (refine wpl_load_blk rfl 38 (.tmp 9) rfl b 38 (pingCs 0 3) _ rfl hB5.out Tryz.underlying38 rfl sizeMsg ?_))
  clear ew4 eb
  have K5 := Lh (K4.out.trans (hO5.out.below HLB.out))
  have R5 : Hid (RdB w5 A2 1 c2 [97]) := Lh ⟨hO5.out.reads R4.out.1 (fun ad e hh => (u8_apart B4.out (by rfl) R4.out.1 (by decide) ad e hh)), R4.out.2⟩
  clear B4 K4 R4 hO5
  refine (check_ping0 w5).mono ?_
  rintro e w6 ⟨rfl, hb⟩
  have B6 := Lh (hB5.out.below hb hB5.out.lt)
  have K6 := Lh (K5.out.trans (hb.mono K5.out.size))
  have R6 := Lh (R5.out.later hb)
  clear hb hB5 K5 R5
  go_wp2_with (refine wpl_load_blk rfl 38 (.tmp 9) rfl b 38 (pingCs 0 3) _ rfl B6.out Tryz.underlying38 rfl sizeMsg ?_)
  refine (put_ping w6).mono ?_
  rintro e w7 ⟨A7, n7, c7, rfl, r7, hb, h71, h72⟩
  have B7 := Lh (B6.out.below hb B6.out.lt)
  have K7 := Lh (K6.out.trans (hb.mono K6.out.size))
  have R7 := Lh (R6.out.later hb)
  have hl7 : n7 = 27 := by have := r7.out.1; simpa [pingB] using this.symm
  subst hl7
  have IN7 : Hid (InB w7 A7 27 c7 pingB) := Lh ⟨r7.out, by unfold Byt pingB; decide, rfl, h71, h72, by decide⟩
  clear hb r7 h71 h72 B6 K6 R6
  go_wp2_with fail
  refine (Get_any A7 27 c7 pingB w7 IN7 (Lh (hg.out.later K7.out))).mono ?_
  rintro e w8 ⟨hb, hm⟩
  rw [ping_read] at hm
  simp only [if_pos] at hm
  obtain ⟨m, hmx, rfl, -, -⟩ := hm
  obtain ⟨cs, ecs⟩ : ∃ cs, mgCs m = cs := ⟨_, rfl⟩
  have h7 : cs[7]? = some (.int .u64 3) := by rw [← ecs]; unfold mgCs; rw [hmx]; rfl
  have hsz : cs.size = 27 := by rw [← ecs]; rfl
  have hone : cs.toList.all (·.oneCell') = true := by rw [← ecs]; rfl
  rw [ecs]
  have HC7 := Lh h7
  have HSZ := Lh hsz
  have HONE := Lh hone
  have B8 := Lh (B7.out.below hb B7.out.lt)
  have K8 := Lh (K7.out.trans (hb.mono K7.out.size))
  have R8 := Lh (R7.out.later hb)
  clear hb hmx ecs h7 hsz hone B7 K7 R7 IN7
  obtain ⟨d, ed⟩ : ∃ d, w8.heap.size = d := ⟨_, rfl⟩
  have hB : Blk (w8.alloc (.cells #[.int .i64 0, .int .i64 0, .int .i64 0, .int .u64 0, .int .u64 0, .int .u64 0, .int .u64 0, .int .u64 0, .bool false, .bool false, .slice none 0 0, .slice none 0 0, .slice none 0 0, .int .u64 0, .int .i64 0, .int .u64 0, .int .i64 0, .int .i64 0, .int .i64 0, .int .u32 0, .slice none 0 0, .int .u64 0, .int .u64 0, .int .i64 0, .string ⟨#[]⟩, .int .i64 0, .slice none 0 0] 38)) w8.heap.size 38 #[.int .i64 0, .int .i64 0, .int .i64 0, .int .u64 0, .int .u64 0, .int .u64 0, .int .u64 0, .int .u64 0, .bool false, .bool false, .slice none 0 0, .slice none 0 0, .slice none 0 0, .int .u64 0, .int .i64 0, .int .u64 0, .int .i64 0, .int .i64 0, .int .i64 0, .int .u32 0, .slice none 0 0, .int .u64 0, .int .u64 0, .int .i64 0, .string ⟨#[]⟩, .int .i64 0, .slice none 0 0] := Blk.new w8 _ _
  have hb : Below w8.heap.size w8 (w8.alloc (.cells #[.int .i64 0, .int .i64 0, .int .i64 0, .int .u64 0, .int .u64 0, .int .u64 0, .int .u64 0, .int .u64 0, .bool false, .bool false, .slice none 0 0, .slice none 0 0, .slice none 0 0, .int .u64 0, .int .i64 0, .int .u64 0, .int .i64 0, .int .i64 0, .int .i64 0, .int .u32 0, .slice none 0 0, .int .u64 0, .int .u64 0, .int .i64 0, .string ⟨#[]⟩, .int .i64 0, .slice none 0 0] 38)) := (Below.refl _ _).alloc (Nat.le_refl _) _
  obtain ⟨w9, ew9⟩ : ∃ w9, w8.alloc (.cells #[.int .i64 0, .int .i64 0, .int .i64 0, .int .u64 0, .int .u64 0, .int .u64 0, .int .u64 0, .int .u64 0, .bool false, .bool false, .slice none 0 0, .slice none 0 0, .slice none 0 0, .int .u64 0, .int .i64 0, .int .u64 0, .int .i64 0, .int .i64 0, .int .i64 0, .int .u32 0, .slice none 0 0, .int .u64 0, .int .u64 0, .int .i64 0, .string ⟨#[]⟩, .int .i64 0, .slice none 0 0] 38) = w9 := ⟨_, rfl⟩
  rw [ew9] at hB hb
  have B9 := Lh (B8.out.below hb B8.out.lt)
  have K9 := Lh (K8.out.trans (hb.mono K8.out.size))
  have R9 := Lh (R8.out.later hb)
  have hlb := K8.out.size
  have hbd := B8.out.lt
  rw [ed] at hB hlb hbd
  have HLD := Lh (And.intro hlb hbd)
  have D9 := Lh hB
  have hRd := Lh (u8_apart D9.out (by rfl) R9.out.1 (by decide))
  clear hb hB B8 K8 R8 hlb hbd
  go_wp2_with (first | rw [ew9] | rw [ed] | (refine wpl_store_blk rfl 38 (.tmp 11) (.tmp 36) rfl d 38 #[.int .i64 0, .int .i64 0, .int .i64 0, .int .u64 0, .int .u64 0, .int .u64 0, .int .u64 0, .int .u64 0, .bool false, .bool false, .slice none 0 0, .slice none 0 0, .slice none 0 0, .int .u64 0, .int .i64 0, .int .u64 0, .int .i64 0, .int .i64 0, .int .i64 0, .int .u32 0, .slice none 0 0, .int .u64 0, .int .u64 0, .int .i64 0, .string ⟨#[]⟩, .int .i64 0, .slice none 0 0] cs rfl rfl D9.out HSZ.out.symm (by rw [HSZ.out]; exact sizeMsg) HONE.out ?_; intro wx hBx hOx; have Bx := Lh (hOx.out.blk B9.out (by have := HLD.out; omega)); have cx : wx.cell? ⟨b, 3, none⟩ = some (.int .u64 0) := Bx.out.cell 3; have fx := Bx.out.frozen 3))
  clear ew9 ed
  have RX := Lh (show RdB wx A2 1 c2 [97] from ⟨hOx.out.reads R9.out.1 (fun ad e hh => hRd.out ad e hh), R9.out.2⟩)
  have hRb := Lh (u8_apart Bx.out (by rfl) RX.out.1 (by decide))
  have hBy : Blk (wx.setCell ⟨b, 3, none⟩ (.int .u64 1)) b 38 (pingCs 1 3) := Bx.out.set_ 3 (.int .u64 1)
  have hOy := Only.set_ wx b 3 (.int .u64 1)
  obtain ⟨wy, ey⟩ : ∃ wy, wx.setCell ⟨b, 3, none⟩ (.int .u64 1) = wy := ⟨_, rfl⟩
  have hzy : wy.heap.size = wx.heap.size := by rw [← ey]; simp
  rw [ey] at hBy hOy ⊢
  have KY := Lh ((K9.out.trans (hOx.out.below HLD.out.1)).trans (hOy.below HLB.out))
  have RY := Lh (show RdB wy A2 1 c2 [97] from ⟨hOy.reads RX.out.1 (fun ad e hh => hRb.out ad e hh), RX.out.2⟩)
  have DY := Lh (hOy.blk hBx.out (by have := HLD.out; omega))
  have BY := Lh hBy
  clear ey hBy hOy cx fx Bx RX hBx hOx K9 R9 D9 B9 hRd hRb
  obtain ⟨wz, ez⟩ : ∃ wz, wy.alloc (.cells #[.int .u8 97] 5) = wz := ⟨_, rfl⟩
  have hbz : Below wy.heap.size wy (wy.alloc (.cells #[.int .u8 97] 5)) := (Below.refl _ _).alloc (Nat.le_refl _) _
  have hrz := Reads.lit wy 5 [.int .u8 97] 1 1 rfl
  have hsz : (wy.alloc (.cells #[.int .u8 97] 5)).heap.size = wy.heap.size + 1 := by simp
  rw [ez] at hbz hrz hsz ⊢
  have KZ := Lh (KY.out.trans (hbz.mono KY.out.size))
  have RZ := Lh (RY.out.later hbz)
  have DZ := Lh (DY.out.below hbz DY.out.lt)
  have BZ := Lh (BY.out.below hbz BY.out.lt)
  have LZ := Lh (show Reads wz wz.heap.size 1 (some ⟨wx.heap.size, 0, none⟩) 1 (([97] : List Nat).map bv) from by rw [hsz, ← hzy]; exact hrz)
  clear hbz hrz hsz ez KY RY DY BY hzy
  refine (same_any A2 (some ⟨wx.heap.size, 0, none⟩) c2 1 1 1 [97] [97] wz (by intro x hx; simp at hx; omega) (by intro x hx; simp at hx; omega) RZ.out.1 LZ.out).mono ?_
  rintro e wq ⟨rfl, rfl⟩
  have c7 : wz.cell? ⟨d, 7, none⟩ = some (.int .u64 3) := by rw [DZ.out.cell]; exact HC7.out
  have c0 : decide (([97] : List Nat) = [97]) = true := by decide
  go_wp2_with (first
    | (go_at_call 11; refine (check_ping1 wz).mono ?_; rintro e wv ⟨rfl, hb⟩; have KV := Lh (KZ.out.trans (hb.mono KZ.out.size)); clear hb)
    | (refine wpl_want2 (by rfl) (wp_load_blk2 38 (.tmp 9) rfl b 38 (pingCs 1 3) _ rfl BZ.out Tryz.underlying38 rfl sizeMsg ?_)))

  go_ret
  exact ⟨rfl, KV.out⟩
end Go.Proofs.YtlnneacgllhdhaaGreatDoor
end
