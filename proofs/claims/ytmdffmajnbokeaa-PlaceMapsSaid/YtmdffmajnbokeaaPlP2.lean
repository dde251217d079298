/-
  THE REFERENCE'S WRITER: the same map?
-/
import Derived.Test.YtmdffmajnbokeaaPlP1
import Derived.Test.YtmdffmajnbokeaaPenB
namespace Go.Proofs.Ytmdffmajnbokeaa
open Go.RowKit PlMath OctMath
set_option linter.unusedVariables false
set_option maxRecDepth 100000 in
set_option maxHeartbeats 1000000 in
theorem put_map (e : Nat) (A : Option Addr) (n cap : Nat) (ms : List Mem) (w : World) (he : e < 18446744073709551616) (h64 : Hid (M64 ms)) (hr : Hid (Reads w w.heap.size 2 A n (mcells ms))) (hl : Hid (ms.length = n)) (hn : n ≤ 1000000000) :
    Calls Try.prog 36 #[.slice none 0 0, mapV e A n cap] w (RetO (mapB e ms) w) := by
  have b1 := Lib.hid (Blk.new w 25 #[.int .u64 (e : Int), .slice A n cap])
  have n1 := Lib.hid ((Below.refl w.heap.size w).alloc (Nat.le_refl _) (.cells #[.int .u64 (e : Int), .slice A n cap] 25))
  have HPM := Lib.hid (fun H g W hp hS hr hH => pen_map H g [] e A n cap ms W hp hS he h64 hr hH hl hn (by simp))
  unfold mapV at HPM ⊢
  go_enter Try.func36, Try.ntmps36
  go_wp2_with (first
    | (go_at_call 44; refine (pen_writer none 0 0 [] _ Reads.none_ (by omega)).mono ?_; rintro en w1 ⟨g, rfl, hg, hb, hp⟩; have HB1 := Lib.hid hb; have HP1 := Lib.hid hp; have HG1 := Lib.hid hg; have B1 := Lib.hid (b1.out.below hb b1.out.lt); clear hg hb hp)
    | (refine wpl_load_blk rfl 25 (.tmp 3) rfl w.heap.size 25 _ _ rfl B1.out Try.underlying25 rfl Try.size_map ?_)
    | (go_at_call 45; refine (HPM.out _ g _ HP1 (Lib.hid (fun k hk => ⟨Nat.lt_of_lt_of_le hk HB1.out.size, by have := HG1.out; simp at this hk ⊢; omega⟩)) (Lib.hid ((hr.out.later n1.out).later HB1.out)) (Lib.hid (fun h0 ad e => by obtain ⟨ad', e', hl, _⟩ := hr.out.2 h0; rw [e] at e'; injection e' with e'; subst e'; simp; omega))).mono ?_; rintro en w2 ⟨⟨v, rfl⟩, p2, k2⟩; have P2 := Lib.hid p2; have K2 := Lib.hid k2; obtain ⟨pv, pB, pO, -, -⟩ := p2.out; obtain ⟨A3, c3, rfl, -, -⟩ := own_slice pO; have z0 := pB.cell 0; have HR := Lib.hid (Reads.of_own pO); clear p2 k2 pB pO))
  go_ret
  have hr := HR.out
  refine ⟨_, _, rfl, by simpa using hr, ?_⟩
  exact (n1.out.trans (HB1.out.mono (by simp))).trans (K2.out.toBelow (by have := HB1.out.size; simp at this; omega) (fun k hk => by simp; omega))
set_option maxRecDepth 100000 in
set_option maxHeartbeats 1000000 in
/-- The same content makes the same map. -/
theorem map_same (e : Nat) (ms : List Mem) (m : Nat) (D : Option Addr) (dc m' : Nat) (D' : Option Addr) (dc' : Nat) (w : World) (he : e < 18446744073709551616) (h64 : Hid (M64 ms)) (hm : ms.length = m) (hm' : ms.length = m') (hn : m ≤ 1000000000) (HE : Hid (Reads w w.heap.size 2 D m (mcells ms))) (HE' : Hid (Reads w w.heap.size 2 D' m' (mcells ms))) :
    Calls Try.prog 23 #[mapV e D m dc, mapV e D' m' dc'] w (fun e w' => e = .returned (.bool true) ∧ Below w.heap.size w w') := by
  have HN := Lib.hid (show m' ≤ 1000000000 from by omega)
  unfold mapV
  have HL := Lib.hid hm
  have HL' := Lib.hid hm'
  clear hm hm'
  have b1 := Lib.hid ((Blk.new w 25 #[.int .u64 (e : Int), .slice D m dc]).alloc (.cells #[.int .u64 (e : Int), .slice D' m' dc'] 25))
  have b2 := Lib.hid (Blk.new (w.alloc (.cells #[.int .u64 (e : Int), .slice D m dc] 25)) 25 #[.int .u64 (e : Int), .slice D' m' dc'])
  have n1 := Lib.hid (((Below.refl w.heap.size w).alloc (Nat.le_refl _) (.cells #[.int .u64 (e : Int), .slice D m dc] 25)).alloc (by simp) (.cells #[.int .u64 (e : Int), .slice D' m' dc'] 25))
  have es : (w.alloc (.cells #[.int .u64 (e : Int), .slice D m dc] 25)).heap.size = w.heap.size + 1 := by simp
  rw [es] at b2
  go_enter Try.func23, Try.ntmps23
  go_wp2
  obtain ⟨W, hW⟩ : ∃ W, (w.alloc (.cells #[.int .u64 (e : Int), .slice D m dc] 25)).alloc (.cells #[.int .u64 (e : Int), .slice D' m' dc'] 25) = W := ⟨_, rfl⟩
  rw [hW] at b1 b2 n1 ⊢
  clear hW es
  refine wp_region_late (S0 := fun _ => True) (S := fun w' => Blk w' w.heap.size 25 #[.int .u64 (e : Int), .slice D m dc] ∧ Blk w' (w.heap.size + 1) 25 #[.int .u64 (e : Int), .slice D' m' dc']) 7 8 (by kernel_rfl) rfl ⟨trivial, b1.out.drew, b2.out.drew⟩ (fun wd hwd hH => ?_)
  have nd := Lib.hid (show Below w.heap.size w wd from by rw [hwd]; exact n1.out.drew)
  clear hwd b1 b2 n1
  refine wpAnyT_take 0 rfl (by kernel_rfl) (fun _ _ _ h => h) (yields_load_blk rfl 25 (.tmp 2) rfl w.heap.size 25 #[.int .u64 (e : Int), .slice D m dc] _ rfl (fun w' hw' => hw'.1) Try.underlying25 rfl Try.size_map) hH ?_
  try simp only [Act.put, List.setIfInBounds_toArray, List.set_cons_zero, List.set_cons_succ]
  refine wpAnyT_take 3 rfl (by kernel_rfl) (fun _ _ _ h => h) (yields_load_blk rfl 25 (.tmp 3) rfl (w.heap.size + 1) 25 #[.int .u64 (e : Int), .slice D' m' dc'] _ rfl (fun w' hw' => hw'.2) Try.underlying25 rfl Try.size_map) hH ?_
  try simp only [Act.put, List.setIfInBounds_toArray, List.set_cons_zero, List.set_cons_succ]
  have H3 := Lib.hid (show ((strOf (mapB e ms)).toList == (strOf (mapB e ms)).toList) = true from by simp)
  refine wpAnyT_one 1 rfl (by kernel_rfl) (fun K hK => ?_)
  go_simp
  (go_at_call 36; refine (put_map e D m dc ms _ he h64 (Lib.hid ((HE.out.below nd.out).more nd.out.size)) HL hn).mono ?_; rintro e w1 ⟨A1, cap1, rfl, r1, hb⟩; have R1 := Lib.hid r1; have HB1 := Lib.hid hb; clear r1 hb)
  refine hK.out _ _ ⟨trivial, hH.2.1.below HB1.out hH.2.1.lt, hH.2.2.below HB1.out hH.2.2.lt⟩ (fun hH1 => ?_)
  clear hK K
  try simp only [Act.put, List.setIfInBounds_toArray, List.set_cons_zero, List.set_cons_succ]
  refine wpAnyT_mono (S0' := fun w' => Reads w' w'.heap.size 1 A1 (mapB e ms).length ((mapB e ms).map bv)) (S' := fun w' => Blk w' w.heap.size 25 #[.int .u64 (e : Int), .slice D m dc] ∧ Blk w' (w.heap.size + 1) 25 #[.int .u64 (e : Int), .slice D' m' dc']) (fun _ _ => trivial) (fun _ h => h) _ _ _ _ ?_
  refine wpAnyT_stay 2 (v := ?_) rfl (by kernel_rfl) (fun _ _ _ h => h) (Or.inl ⟨by rfl, ?_⟩) ⟨R1.out, fun _ => hH1.2⟩ ?_
  rotate_left
  · (intro wx hx; have kc := run_conv_bytes (P := Try.prog) (src := 65) (dst := 9) (cap := cap1) Try.underlying65 Try.underlying5 Try.underlying9 hx; go_simp <;> with_reducible rfl)
  try simp only [Act.put, List.setIfInBounds_toArray, List.set_cons_zero, List.set_cons_succ]
  refine wpAnyT_one 4 rfl (by kernel_rfl) (fun K hK => ?_)
  go_simp
  (go_at_call 36; refine (put_map e D' m' dc' ms _ he h64 (Lib.hid ((HE'.out.below (nd.out.trans (HB1.out.mono nd.out.size))).more (Nat.le_trans nd.out.size HB1.out.size))) HL' HN.out).mono ?_; rintro e w2 ⟨A2, cap2, rfl, r2, hb⟩; have R2 := Lib.hid r2; have HB2 := Lib.hid hb; clear r2 hb)
  refine hK.out _ _ ⟨R1.out.later HB2.out, hH1.2.1.below HB2.out hH1.2.1.lt, hH1.2.2.below HB2.out hH1.2.2.lt⟩ (fun hH2 => ?_)
  clear hK K
  try simp only [Act.put, List.setIfInBounds_toArray, List.set_cons_zero, List.set_cons_succ]
  refine wpAnyT_mono (S0' := fun w' => Reads w' w'.heap.size 1 A2 (mapB e ms).length ((mapB e ms).map bv) ∧ Reads w' w'.heap.size 1 A1 (mapB e ms).length ((mapB e ms).map bv)) (S' := fun w' => Blk w' w.heap.size 25 #[.int .u64 (e : Int), .slice D m dc] ∧ Blk w' (w.heap.size + 1) 25 #[.int .u64 (e : Int), .slice D' m' dc']) (fun _ h => h.2) (fun _ h => h) _ _ _ _ ?_
  refine wpAnyT_stay 5 (v := ?_) rfl (by kernel_rfl) (fun _ _ _ h => h) (Or.inl ⟨by rfl, ?_⟩) ⟨⟨R2.out, hH2.1⟩, fun _ => hH2.2⟩ ?_
  rotate_left
  · (intro wx hx; have kc := run_conv_bytes (P := Try.prog) (src := 65) (dst := 9) (cap := cap2) Try.underlying65 Try.underlying5 Try.underlying9 hx.1; go_simp <;> with_reducible rfl)
  try simp only [Act.put, List.setIfInBounds_toArray, List.set_cons_zero, List.set_cons_succ]
  refine wpAnyT_stay 6 (v := ?_) rfl (by kernel_rfl) (fun _ _ _ h => h) (Or.inl ⟨by rfl, ?_⟩) ⟨⟨R2.out, hH2.1⟩, fun _ => hH2.2⟩ ?_
  rotate_left
  · (intro wx hx; have h3 := H3.out; go_simp <;> with_reducible rfl)
  try simp only [Act.put, List.setIfInBounds_toArray, List.set_cons_zero, List.set_cons_succ]
  refine wpAnyT_last 7 rfl (by kernel_rfl) (by decide) (fun K hK => ?_)
  go_simp
  refine hK.out _ _ ⟨R2.out, hH2.1⟩ (fun hH7 => ?_)
  clear hK K
  try simp only [Act.put, List.setIfInBounds_toArray, List.set_cons_zero, List.set_cons_succ]
  refine wpAnyT_done (by kernel_rfl) ?_ _
  clear hH hH1 hH2 hH7
  go_wp2
  go_ret
  exact ⟨rfl, (nd.out.trans (HB1.out.mono nd.out.size)).trans (HB2.out.mono (Nat.le_trans nd.out.size HB1.out.size))⟩
end Go.Proofs.Ytmdffmajnbokeaa
