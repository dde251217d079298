/-
  THE REFERENCE'S WRITER (layer 5's P): what each of its calls writes, and what it leaves alone. (joined out of PenW1 by shake.py)
-/
import Derived.Test.YtlnneacgllhdhaaGreatDoorWpv03
import Derived.Test.YtlnneacgllhdhaaGreatDoorWpv01
import Derived.Test.YtlnneacgllhdhaaGreatDoorWpv05
section
namespace Go.Proofs.YtlnneacgllhdhaaGreatDoor
open Go.RowKit OctMath
set_option linter.unusedVariables false
structure Keep (H : Nat → Prop) (w w' : World) : Prop where
  os : w'.os = w.os
  tape : w'.tape = w.tape
  output : w'.output = w.output
  size : w.heap.size ≤ w'.heap.size
  block : ∀ k, H k → k < w.heap.size → w'.heap[k]? = w.heap[k]?
theorem Keep.refl (H : Nat → Prop) (w : World) : Keep H w w := ⟨rfl, rfl, rfl, Nat.le_refl _, fun _ _ _ => rfl⟩
theorem Keep.trans {H : Nat → Prop} {w w' w'' : World} (h : Keep H w w') (k : Keep H w' w'') : Keep H w w'' :=
  ⟨k.os.trans h.os, k.tape.trans h.tape, k.output.trans h.output, Nat.le_trans h.size k.size, fun i hi hl => (k.block i hi (Nat.lt_of_lt_of_le hl h.size)).trans (h.block i hi hl)⟩
theorem Keep.mono {H H' : Nat → Prop} {w w' : World} (h : Keep H w w') (hs : ∀ k, H' k → H k) : Keep H' w w' := ⟨h.os, h.tape, h.output, h.size, fun k hk => h.block k (hs k hk)⟩
theorem Keep.below {H : Nat → Prop} {w w' : World} (hb : Below w.heap.size w w') : Keep H w w' := ⟨hb.os, hb.tape, hb.output, hb.size, fun k _ hl => hb.block k hl⟩
theorem Keep.grown {H : Nat → Prop} {w w' : World} {row : Option Nat} (hg : w.grownBy w' row) (hr : ∀ k, H k → some k ≠ row) : Keep H w w' := ⟨hg.os, hg.tape, hg.output, hg.size, fun k hk hl => hg.block k hl (hr k hk)⟩
theorem Keep.only {H : Nat → Prop} {w w' : World} {g : Nat} (ho : Only g w w') (hg : ¬ H g) : Keep H w w' := Keep.grown ho.grown (fun k hk e => hg (by injection e with e; rwa [← e]))
theorem Keep.set_ (H : Nat → Prop) (w : World) {g : Nat} (i : Nat) (u : Value) (hg : ¬ H g) : Keep H w (w.setCell ⟨g, i, none⟩ u) := Keep.only (Only.set_ w g i u) hg
theorem Keep.alloc {H : Nat → Prop} {w w' : World} (h : Keep H w w') (o : Obj) : Keep H w (w'.alloc o) := h.trans (Keep.below ((Below.refl _ _).alloc (Nat.le_refl _) o))
theorem Keep.blk {H : Nat → Prop} {w w' : World} {g : Nat} {t : TypeId} {cs : Array Value} (h : Keep H w w') (hB : Blk w g t cs) (hg : H g) : Blk w' g t cs := (h.block g hg hB.lt).trans hB
theorem Keep.toBelow {H : Nat → Prop} {w w' : World} {B : Nat} (h : Keep H w w') (hB : B ≤ w.heap.size) (hs : ∀ k, k < B → H k) : Below B w w' := ⟨h.os, h.tape, h.output, h.size, fun k hk => h.block k (hs k hk) (by omega)⟩
theorem Keep.cell {H : Nat → Prop} {w w' : World} {p : Addr} {v : Value} (h : Keep H w w') (hc : w.cell? p = some v) (hp : H p.block) : w'.cell? p = some v := (World.cell?_of_block (h.block p.block hp (World.block_lt_of_cell? _ _ hc))).trans hc
theorem Keep.reads {H : Nat → Prop} {w w' : World} {A : Option Addr} {n size : Nat} {xs : List Value} (h : Keep H w w') (hr : Reads w w.heap.size size A n xs) (hp : 0 < n → ∀ ad, A = some ad → H ad.block) : Reads w' w'.heap.size size A n xs := by
  refine ⟨hr.1, fun hn => ?_⟩
  obtain ⟨ad, e, hb, hc⟩ := hr.2 hn
  exact ⟨ad, e, Nat.lt_of_lt_of_le hb h.size, fun j u hu => h.cell (hc j u hu) (by rw [block_of_add]; exact hp hn ad e)⟩
structure Pen (H : Nat → Prop) (g : Nat) (xs : List Nat) (w : World) : Prop where
  out : ∃ v, Blk w g 139 #[v, .int .i64 0, .bool true, .bool false] ∧ w.ownsRow 0 5 1 v xs.length (xs.map bv) ∧ v.ownBlock ≠ some g ∧ (∀ k, H k → v.ownBlock ≠ some k)
theorem Pen.lt {H : Nat → Prop} {g : Nat} {xs : List Nat} {w : World} (h : Pen H g xs w) : g < w.heap.size := by
  obtain ⟨v, hB, _⟩ := h.out
  exact hB.lt
theorem Pen.mono {H H' : Nat → Prop} {g : Nat} {xs : List Nat} {w : World} (h : Pen H g xs w) (hs : ∀ k, H' k → H k ∨ w.heap.size ≤ k) : Pen H' g xs w := by
  obtain ⟨v, hB, hO, hg, hh⟩ := h.out
  exact ⟨v, hB, hO, hg, fun k hk e => (hs k hk).elim (fun h => hh k h e) (fun h => by have := (hO.lt k e).2; omega)⟩
theorem Pen.later {H : Nat → Prop} {g : Nat} {xs : List Nat} {w w' : World} (h : Pen H g xs w) (hb : Below w.heap.size w w') : Pen H g xs w' := by
  obtain ⟨v, hB, hO, hg, hh⟩ := h.out
  exact ⟨v, hB.below hb hB.lt, hO.kept (row := none) ⟨hb.os, hb.tape, hb.output, hb.size, fun k hk _ => hb.block k hk⟩ (by cases h : v.ownBlock with | none => exact .inl rfl | some x => exact .inr (by simp)), hg, hh⟩
theorem Pen.only {H : Nat → Prop} {g k : Nat} {xs : List Nat} {w w' : World} (h : Pen H g xs w) (ho : Only k w w') (hk : H k) (hg' : k ≠ g) : Pen H g xs w' := by
  obtain ⟨v, hB, hO, hg, hh⟩ := h.out
  exact ⟨v, ho.blk hB (Ne.symm hg'), ho.own hO (hh k hk), hg, hh⟩
theorem Pen.alloc {H : Nat → Prop} {g : Nat} {xs : List Nat} {w : World} (h : Pen H g xs w) (o : Obj) : Pen H g xs (w.alloc o) := h.later ((Below.refl _ _).alloc (Nat.le_refl _) o)
def Safe (H : Nat → Prop) (g : Nat) (w : World) : Prop := ∀ k, H k → k < w.heap.size ∧ k ≠ g
def RetPen (H : Nat → Prop) (g : Nat) (ys : List Nat) (v : Value) (w : World) (e : Ending) (w' : World) : Prop := e = .returned v ∧ Pen H g ys w' ∧ Keep H w w'
set_option maxRecDepth 100000 in
set_option maxHeartbeats 1000000 in
theorem pen_u64 (H : Nat → Prop) (g : Nat) (xs : List Nat) (n : Nat) (w : World) (hp : Hid (Pen H g xs w)) (hS : Hid (Safe H g w)) (hn : n < 18446744073709551616) (hl : xs.length ≤ 70000000000000) :
    Calls Tryz.prog 65 #[.pointer (some ⟨g, 0, none⟩), .int .u64 n] w (RetPen H g (xs ++ putN n) (.int .u64 n) w) := by
  obtain ⟨pv, hB, hO, hg, hh⟩ := hp.out.out
  obtain ⟨ii, hi1, hi2, hi3, hi4⟩ := info_parts Tryz.infoU8
  have y2 : w.cell? ⟨g, 2, none⟩ = some (.bool true) := hB.cell 2
  have HB := Lh hB
  have HO := Lh hO
  have PG := Lh hg
  have HH := Lh hh
  clear hB hO hg hh
  go_enter Tryz.func65, Tryz.ntmps65
  go_wp2
  refine wp_region_late (S0 := fun _ => True) (S := fun w' => w'.cell? ⟨g, 0, none⟩ = some pv) 10 11 (by kernel_rfl) rfl ⟨trivial, HB.out.cell 0⟩ (fun wd hwd hH => ?_)
  have DW := Lh (show Below w.heap.size w wd from by rw [hwd]; exact (Below.refl _ _).drew)
  clear hwd y2
  have GD := Lh (HB.out.below DW.out HB.out.lt)
  have OD := Lh (show wd.ownsRow 0 5 1 pv xs.length (xs.map bv) from HO.out.kept (row := none) ⟨DW.out.os, DW.out.tape, DW.out.output, DW.out.size, fun k hk _ => DW.out.block k hk⟩ (by cases pv.ownBlock <;> simp))
  refine wpAnyT_stay 0 (v := ?_) rfl (by kernel_rfl) (fun _ _ _ h => h) (Or.inl ⟨by rfl, ?_⟩) ⟨hH.1, fun _ => hH.2⟩ ?_
  rotate_left
  · (intro wx hx; go_simp <;> with_reducible rfl)
  try simp only [Act.put, pA9, pZ9, pS9]
  refine wpAnyT_stay 1 (v := ?_) rfl (by kernel_rfl) (fun _ _ _ h => h) (Or.inl ⟨by rfl, ?_⟩) ⟨hH.1, fun _ => hH.2⟩ ?_
  rotate_left
  · (intro wx hx; go_simp <;> with_reducible rfl)
  try simp only [Act.put, pA9, pZ9, pS9]
  refine wpAnyT_stay 2 (v := ?_) rfl (by kernel_rfl) (fun _ _ _ h => h) (Or.inl ⟨by rfl, ?_⟩) ⟨hH.1, fun _ => hH.2⟩ ?_
  rotate_left
  · (intro wx hx; go_simp <;> with_reducible rfl)
  try simp only [Act.put, pA9, pZ9, pS9]
  refine wpAnyT_stay 3 (v := ?_) rfl (by kernel_rfl) (fun _ _ _ h => h) (Or.inl ⟨by rfl, ?_⟩) ⟨hH.1, fun _ => hH.2⟩ ?_
  rotate_left
  · (intro wx hx; go_simp <;> with_reducible rfl)
  try simp only [Act.put, pA9, pZ9, pS9]
  refine wpAnyT_take 4 (v := ?_) rfl (by kernel_rfl) (fun _ _ _ h => h) (Or.inl ⟨by rfl, ?_⟩) hH ?_
  rotate_left
  · (intro wx hx; go_simp <;> with_reducible rfl)
  try simp only [Act.put, pA9, pZ9, pS9]
  refine wpAnyT_stay 5 (v := ?_) rfl (by kernel_rfl) (fun _ _ _ h => h) (Or.inl ⟨by rfl, ?_⟩) ⟨hH.1, fun _ => hH.2⟩ ?_
  rotate_left
  · (intro wx hx; go_simp <;> with_reducible rfl)
  try simp only [Act.put, pA9, pZ9, pS9]
  refine wpAnyT_one 6 rfl (by kernel_rfl) (fun K hK => ?_)
  go_simp
  (go_at_call 106; refine (rputnum_any none 0 0 n [] _ Reads.none_ (fun u hu => by cases hu) hn (by omega)).mono ?_; rintro e w1 hr; obtain ⟨A1, cap1, rfl, r1, r2, r3, hb, -⟩ := hr.open; have R1 := Lh r1; have HB1 := Lh hb; clear r1 hb)
  refine hK.out _ _ ?_ (fun hH6 => ?_)
  · exact ⟨trivial, (HB1.out.cell (p := ⟨g, 0, none⟩) GD.out.lt).trans (GD.out.cell 0)⟩
  clear hK K
  try simp only [Act.put, pA9, pZ9, pS9]
  refine wpAnyT_one 7 rfl (by kernel_rfl) (fun K hK => ?_)
  refine step_append_any w1 rfl (.tmp 16) (.tmp 18) _ rfl 0 5 ii _ 1 1 Tryz.underlying33 hi1 hi2 hi3 hi4 rfl (by decide) pv xs.length (xs.map bv) rfl (OD.out.kept (row := none) ⟨HB1.out.os, HB1.out.tape, HB1.out.output, HB1.out.size, fun k hk _ => HB1.out.block k hk⟩ (by cases pv.ownBlock <;> simp)) _ A1 _ cap1 _ rfl R1.out ?_ ?_ ?_ (Nat.zero_le _) ?_
  · exact (fun u hu => bv_one (putN n) u (by simpa using hu))
  · (have := putN_len1 n hn; unfold maxLen; simp at *; omega)
  · (have := putN_len1 n hn; simp at *; omega)
  intro pv2 w2 ho2 hg2 hv2
  obtain ⟨PA, pn, pc, rfl⟩ : ∃ PA pn pc, pv2 = .slice PA pn pc := (by obtain ⟨x, y, e, _⟩ := own_slice ho2; exact ⟨_, _, _, e⟩)
  have HO2 := Lh ho2
  have HG2 := Lh hg2
  have HV2 := Lh hv2
  clear ho2 hg2 hv2
  have GB := Lh ((GD.out.below HB1.out GD.out.lt).grown HG2.out (fun e => PG.out e.symm))
  have z0 : w2.cell? ⟨g, 0, none⟩ = some pv := GB.out.cell 0
  have z1 : w2.frozen? ⟨g, 0, none⟩ = false := GB.out.frozen 0
  refine hK.out _ _ ?_ (fun hH7 => ?_)
  · exact ⟨trivial, z0⟩
  clear hK K
  try simp only [Act.put]
  refine wpAnyT_stay 8 (v := ?_) rfl (by kernel_rfl) (fun _ _ _ h => h) (Or.inl ⟨by rfl, ?_⟩) ⟨hH7.1, fun _ => hH7.2⟩ ?_
  rotate_left
  · (intro wx hx; go_simp <;> with_reducible rfl)
  try simp only [Act.put, pA9, pZ9, pS9]
  refine wpAnyT_stay 9 (v := ?_) rfl (by kernel_rfl) (fun _ _ _ h => h) (Or.inl ⟨by rfl, ?_⟩) ⟨hH7.1, fun _ => hH7.2⟩ ?_
  rotate_left
  · (intro wx hx; go_simp <;> with_reducible rfl)
  try simp only [Act.put, pA9, pZ9, pS9]
  refine wpAnyT_last 10 rfl (by kernel_rfl) (by decide) (fun K hK => ?_)
  go_simp
  refine hK.out _ _ ?_ (fun hH10 => ?_)
  · trivial
  clear hK K
  try simp only [Act.put, pA9, pZ9, pS9]
  refine wpAnyT_done (by kernel_rfl) ?_ _
  have GS := Lh (GB.out.set_ 0 (.slice PA pn pc))
  have OS := Lh (Only.set_ w2 g 0 (.slice PA pn pc))
  obtain ⟨w3, hw3⟩ : ∃ w3, w2.setCell ⟨g, 0, none⟩ (.slice PA pn pc) = w3 := ⟨_, rfl⟩
  rw [hw3] at GS OS ⊢
  clear hw3 z0 z1
  clear hH hH6 hH7 hH10
  go_wp2
  go_ret
  have lo : ∀ k, pv.ownBlock = some k → k < w.heap.size := fun k e => (HO.out.lt k e).2
  have hne : ∀ k, k < w.heap.size → pv.ownBlock ≠ some k → (Value.slice PA pn pc).ownBlock ≠ some k := fun k hk hn e => by
    rcases HV2.out with h | h
    · exact hn (h.symm.trans e)
    · rw [h] at e; injection e with e; have := HB1.out.size; have := DW.out.size; omega
  refine ⟨rfl, ⟨_, GS.out, ?_, hne g HB.out.lt PG.out, fun k hk => hne k (hS.out k hk).1 (HH.out k hk)⟩, ?_⟩
  · have h := OS.out.own HO2.out (hne g HB.out.lt PG.out)
    rw [List.length_append, List.map_append]
    simpa using h
  · exact ((Keep.below DW.out).trans (Keep.below HB1.out)).trans ((Keep.grown HG2.out (fun k hk e => HH.out k hk e.symm)).trans (Keep.only OS.out (fun hk => (hS.out g hk).2 rfl)))
set_option maxRecDepth 100000 in
set_option maxHeartbeats 1000000 in
theorem pen_int (H : Nat → Prop) (g : Nat) (xs : List Nat) (n : Int) (w : World) (hp : Hid (Pen H g xs w)) (hS : Hid (Safe H g w)) (n1 : -9223372036854775808 ≤ n) (n2 : n ≤ 9223372036854775807) (hl : xs.length ≤ 70000000000000) :
    Calls Tryz.prog 64 #[.pointer (some ⟨g, 0, none⟩), .int .i64 n] w (RetPen H g (xs ++ putN (zz n)) (.int .i64 n) w) := by
  obtain ⟨pv, hB, hO, hg, hh⟩ := hp.out.out
  obtain ⟨ii, hi1, hi2, hi3, hi4⟩ := info_parts Tryz.infoU8
  have y2 : w.cell? ⟨g, 2, none⟩ = some (.bool true) := hB.cell 2
  have HB := Lh hB
  have HO := Lh hO
  have PG := Lh hg
  have HH := Lh hh
  clear hB hO hg hh
  go_enter Tryz.func64, Tryz.ntmps64
  go_wp2
  refine wp_region_late (S0 := fun _ => True) (S := fun w' => w'.cell? ⟨g, 0, none⟩ = some pv) 10 11 (by kernel_rfl) rfl ⟨trivial, HB.out.cell 0⟩ (fun wd hwd hH => ?_)
  have DW := Lh (show Below w.heap.size w wd from by rw [hwd]; exact (Below.refl _ _).drew)
  clear hwd y2
  have GD := Lh (HB.out.below DW.out HB.out.lt)
  have OD := Lh (show wd.ownsRow 0 5 1 pv xs.length (xs.map bv) from HO.out.kept (row := none) ⟨DW.out.os, DW.out.tape, DW.out.output, DW.out.size, fun k hk _ => DW.out.block k hk⟩ (by cases pv.ownBlock <;> simp))
  refine wpAnyT_stay 0 (v := ?_) rfl (by kernel_rfl) (fun _ _ _ h => h) (Or.inl ⟨by rfl, ?_⟩) ⟨hH.1, fun _ => hH.2⟩ ?_
  rotate_left
  · (intro wx hx; go_simp <;> with_reducible rfl)
  try simp only [Act.put, pA9, pZ9, pS9]
  refine wpAnyT_stay 1 (v := ?_) rfl (by kernel_rfl) (fun _ _ _ h => h) (Or.inl ⟨by rfl, ?_⟩) ⟨hH.1, fun _ => hH.2⟩ ?_
  rotate_left
  · (intro wx hx; go_simp <;> with_reducible rfl)
  try simp only [Act.put, pA9, pZ9, pS9]
  refine wpAnyT_stay 2 (v := ?_) rfl (by kernel_rfl) (fun _ _ _ h => h) (Or.inl ⟨by rfl, ?_⟩) ⟨hH.1, fun _ => hH.2⟩ ?_
  rotate_left
  · (intro wx hx; go_simp <;> with_reducible rfl)
  try simp only [Act.put, pA9, pZ9, pS9]
  refine wpAnyT_stay 3 (v := ?_) rfl (by kernel_rfl) (fun _ _ _ h => h) (Or.inl ⟨by rfl, ?_⟩) ⟨hH.1, fun _ => hH.2⟩ ?_
  rotate_left
  · (intro wx hx; go_simp <;> with_reducible rfl)
  try simp only [Act.put, pA9, pZ9, pS9]
  refine wpAnyT_take 4 (v := ?_) rfl (by kernel_rfl) (fun _ _ _ h => h) (Or.inl ⟨by rfl, ?_⟩) hH ?_
  rotate_left
  · (intro wx hx; go_simp <;> with_reducible rfl)
  try simp only [Act.put, pA9, pZ9, pS9]
  refine wpAnyT_stay 5 (v := ?_) rfl (by kernel_rfl) (fun _ _ _ h => h) (Or.inl ⟨by rfl, ?_⟩) ⟨hH.1, fun _ => hH.2⟩ ?_
  rotate_left
  · (intro wx hx; go_simp <;> with_reducible rfl)
  try simp only [Act.put, pA9, pZ9, pS9]
  refine wpAnyT_one 6 rfl (by kernel_rfl) (fun K hK => ?_)
  go_simp
  (go_at_call 104; refine (rputint_any none 0 0 n [] _ Reads.none_ (fun u hu => by cases hu) n1 n2 (by omega)).mono ?_; rintro e w1 hr; obtain ⟨A1, cap1, rfl, r1, r2, r3, hb, -⟩ := hr.open; have R1 := Lh r1; have HB1 := Lh hb; clear r1 hb)
  refine hK.out _ _ ?_ (fun hH6 => ?_)
  · exact ⟨trivial, (HB1.out.cell (p := ⟨g, 0, none⟩) GD.out.lt).trans (GD.out.cell 0)⟩
  clear hK K
  try simp only [Act.put, pA9, pZ9, pS9]
  refine wpAnyT_one 7 rfl (by kernel_rfl) (fun K hK => ?_)
  refine step_append_any w1 rfl (.tmp 16) (.tmp 18) _ rfl 0 5 ii _ 1 1 Tryz.underlying33 hi1 hi2 hi3 hi4 rfl (by decide) pv xs.length (xs.map bv) rfl (OD.out.kept (row := none) ⟨HB1.out.os, HB1.out.tape, HB1.out.output, HB1.out.size, fun k hk _ => HB1.out.block k hk⟩ (by cases pv.ownBlock <;> simp)) _ A1 _ cap1 _ rfl R1.out ?_ ?_ ?_ (Nat.zero_le _) ?_
  · exact (fun u hu => bv_one (putN (zz n)) u (by simpa using hu))
  · (have := putN_len1 (zz n) (zz_lt n1 n2); unfold maxLen; simp at *; omega)
  · (have := putN_len1 (zz n) (zz_lt n1 n2); simp at *; omega)
  intro pv2 w2 ho2 hg2 hv2
  obtain ⟨PA, pn, pc, rfl⟩ : ∃ PA pn pc, pv2 = .slice PA pn pc := (by obtain ⟨x, y, e, _⟩ := own_slice ho2; exact ⟨_, _, _, e⟩)
  have HO2 := Lh ho2
  have HG2 := Lh hg2
  have HV2 := Lh hv2
  clear ho2 hg2 hv2
  have GB := Lh ((GD.out.below HB1.out GD.out.lt).grown HG2.out (fun e => PG.out e.symm))
  have z0 : w2.cell? ⟨g, 0, none⟩ = some pv := GB.out.cell 0
  have z1 : w2.frozen? ⟨g, 0, none⟩ = false := GB.out.frozen 0
  refine hK.out _ _ ?_ (fun hH7 => ?_)
  · exact ⟨trivial, z0⟩
  clear hK K
  try simp only [Act.put]
  refine wpAnyT_stay 8 (v := ?_) rfl (by kernel_rfl) (fun _ _ _ h => h) (Or.inl ⟨by rfl, ?_⟩) ⟨hH7.1, fun _ => hH7.2⟩ ?_
  rotate_left
  · (intro wx hx; go_simp <;> with_reducible rfl)
  try simp only [Act.put, pA9, pZ9, pS9]
  refine wpAnyT_stay 9 (v := ?_) rfl (by kernel_rfl) (fun _ _ _ h => h) (Or.inl ⟨by rfl, ?_⟩) ⟨hH7.1, fun _ => hH7.2⟩ ?_
  rotate_left
  · (intro wx hx; go_simp <;> with_reducible rfl)
  try simp only [Act.put, pA9, pZ9, pS9]
  refine wpAnyT_last 10 rfl (by kernel_rfl) (by decide) (fun K hK => ?_)
  go_simp
  refine hK.out _ _ ?_ (fun hH10 => ?_)
  · trivial
  clear hK K
  try simp only [Act.put, pA9, pZ9, pS9]
  refine wpAnyT_done (by kernel_rfl) ?_ _
  have GS := Lh (GB.out.set_ 0 (.slice PA pn pc))
  have OS := Lh (Only.set_ w2 g 0 (.slice PA pn pc))
  obtain ⟨w3, hw3⟩ : ∃ w3, w2.setCell ⟨g, 0, none⟩ (.slice PA pn pc) = w3 := ⟨_, rfl⟩
  rw [hw3] at GS OS ⊢
  clear hw3 z0 z1
  clear hH hH6 hH7 hH10
  go_wp2
  go_ret
  have lo : ∀ k, pv.ownBlock = some k → k < w.heap.size := fun k e => (HO.out.lt k e).2
  have hne : ∀ k, k < w.heap.size → pv.ownBlock ≠ some k → (Value.slice PA pn pc).ownBlock ≠ some k := fun k hk hn e => by
    rcases HV2.out with h | h
    · exact hn (h.symm.trans e)
    · rw [h] at e; injection e with e; have := HB1.out.size; have := DW.out.size; omega
  refine ⟨rfl, ⟨_, GS.out, ?_, hne g HB.out.lt PG.out, fun k hk => hne k (hS.out k hk).1 (HH.out k hk)⟩, ?_⟩
  · have h := OS.out.own HO2.out (hne g HB.out.lt PG.out)
    rw [List.length_append, List.map_append]
    simpa using h
  · exact ((Keep.below DW.out).trans (Keep.below HB1.out)).trans ((Keep.grown HG2.out (fun k hk e => HH.out k hk e.symm)).trans (Keep.only OS.out (fun hk => (hS.out g hk).2 rfl)))
set_option maxRecDepth 100000 in
set_option maxHeartbeats 1000000 in
theorem pen_flag (H : Nat → Prop) (g : Nat) (xs : List Nat) (b : Bool) (w : World) (hp : Hid (Pen H g xs w)) (hS : Hid (Safe H g w))  (hl : xs.length ≤ 70000000000000) :
    Calls Tryz.prog 66 #[.pointer (some ⟨g, 0, none⟩), .bool b] w (RetPen H g (xs ++ [b.toNat]) (.bool b) w) := by
  obtain ⟨pv, hB, hO, hg, hh⟩ := hp.out.out
  obtain ⟨ii, hi1, hi2, hi3, hi4⟩ := info_parts Tryz.infoU8
  have y2 : w.cell? ⟨g, 2, none⟩ = some (.bool true) := hB.cell 2
  have HB := Lh hB
  have HO := Lh hO
  have PG := Lh hg
  have HH := Lh hh
  clear hB hO hg hh
  go_enter Tryz.func66, Tryz.ntmps66
  go_wp2
  refine wp_region_late (S0 := fun _ => True) (S := fun w' => w'.cell? ⟨g, 0, none⟩ = some pv) 10 11 (by kernel_rfl) rfl ⟨trivial, HB.out.cell 0⟩ (fun wd hwd hH => ?_)
  have DW := Lh (show Below w.heap.size w wd from by rw [hwd]; exact (Below.refl _ _).drew)
  clear hwd y2
  have GD := Lh (HB.out.below DW.out HB.out.lt)
  have OD := Lh (show wd.ownsRow 0 5 1 pv xs.length (xs.map bv) from HO.out.kept (row := none) ⟨DW.out.os, DW.out.tape, DW.out.output, DW.out.size, fun k hk _ => DW.out.block k hk⟩ (by cases pv.ownBlock <;> simp))
  refine wpAnyT_stay 0 (v := ?_) rfl (by kernel_rfl) (fun _ _ _ h => h) (Or.inl ⟨by rfl, ?_⟩) ⟨hH.1, fun _ => hH.2⟩ ?_
  rotate_left
  · (intro wx hx; go_simp <;> with_reducible rfl)
  try simp only [Act.put, pA9, pZ9, pS9]
  refine wpAnyT_stay 1 (v := ?_) rfl (by kernel_rfl) (fun _ _ _ h => h) (Or.inl ⟨by rfl, ?_⟩) ⟨hH.1, fun _ => hH.2⟩ ?_
  rotate_left
  · (intro wx hx; go_simp <;> with_reducible rfl)
  try simp only [Act.put, pA9, pZ9, pS9]
  refine wpAnyT_stay 2 (v := ?_) rfl (by kernel_rfl) (fun _ _ _ h => h) (Or.inl ⟨by rfl, ?_⟩) ⟨hH.1, fun _ => hH.2⟩ ?_
  rotate_left
  · (intro wx hx; go_simp <;> with_reducible rfl)
  try simp only [Act.put, pA9, pZ9, pS9]
  refine wpAnyT_stay 3 (v := ?_) rfl (by kernel_rfl) (fun _ _ _ h => h) (Or.inl ⟨by rfl, ?_⟩) ⟨hH.1, fun _ => hH.2⟩ ?_
  rotate_left
  · (intro wx hx; go_simp <;> with_reducible rfl)
  try simp only [Act.put, pA9, pZ9, pS9]
  refine wpAnyT_take 4 (v := ?_) rfl (by kernel_rfl) (fun _ _ _ h => h) (Or.inl ⟨by rfl, ?_⟩) hH ?_
  rotate_left
  · (intro wx hx; go_simp <;> with_reducible rfl)
  try simp only [Act.put, pA9, pZ9, pS9]
  refine wpAnyT_stay 5 (v := ?_) rfl (by kernel_rfl) (fun _ _ _ h => h) (Or.inl ⟨by rfl, ?_⟩) ⟨hH.1, fun _ => hH.2⟩ ?_
  rotate_left
  · (intro wx hx; go_simp <;> with_reducible rfl)
  try simp only [Act.put, pA9, pZ9, pS9]
  refine wpAnyT_one 6 rfl (by kernel_rfl) (fun K hK => ?_)
  go_simp
  (go_at_call 108; refine (rputflag_any b none 0 0 [] _ Reads.none_ (fun u hu => by cases hu) (by omega)).mono ?_; rintro e w1 hr; obtain ⟨A1, cap1, rfl, r1, r2, r3, hb, -⟩ := hr.open; have R1 := Lh r1; have HB1 := Lh hb; clear r1 hb)
  refine hK.out _ _ ?_ (fun hH6 => ?_)
  · exact ⟨trivial, (HB1.out.cell (p := ⟨g, 0, none⟩) GD.out.lt).trans (GD.out.cell 0)⟩
  clear hK K
  try simp only [Act.put, pA9, pZ9, pS9]
  refine wpAnyT_one 7 rfl (by kernel_rfl) (fun K hK => ?_)
  refine step_append_any w1 rfl (.tmp 16) (.tmp 18) _ rfl 0 5 ii _ 1 1 Tryz.underlying33 hi1 hi2 hi3 hi4 rfl (by decide) pv xs.length (xs.map bv) rfl (OD.out.kept (row := none) ⟨HB1.out.os, HB1.out.tape, HB1.out.output, HB1.out.size, fun k hk _ => HB1.out.block k hk⟩ (by cases pv.ownBlock <;> simp)) _ A1 _ cap1 _ rfl R1.out ?_ ?_ ?_ (Nat.zero_le _) ?_
  · exact (fun u hu => bv_one [b.toNat] u (by simpa using hu))
  · (unfold maxLen; simp; omega)
  · (simp; omega)
  intro pv2 w2 ho2 hg2 hv2
  obtain ⟨PA, pn, pc, rfl⟩ : ∃ PA pn pc, pv2 = .slice PA pn pc := (by obtain ⟨x, y, e, _⟩ := own_slice ho2; exact ⟨_, _, _, e⟩)
  have HO2 := Lh ho2
  have HG2 := Lh hg2
  have HV2 := Lh hv2
  clear ho2 hg2 hv2
  have GB := Lh ((GD.out.below HB1.out GD.out.lt).grown HG2.out (fun e => PG.out e.symm))
  have z0 : w2.cell? ⟨g, 0, none⟩ = some pv := GB.out.cell 0
  have z1 : w2.frozen? ⟨g, 0, none⟩ = false := GB.out.frozen 0
  refine hK.out _ _ ?_ (fun hH7 => ?_)
  · exact ⟨trivial, z0⟩
  clear hK K
  try simp only [Act.put]
  refine wpAnyT_stay 8 (v := ?_) rfl (by kernel_rfl) (fun _ _ _ h => h) (Or.inl ⟨by rfl, ?_⟩) ⟨hH7.1, fun _ => hH7.2⟩ ?_
  rotate_left
  · (intro wx hx; go_simp <;> with_reducible rfl)
  try simp only [Act.put, pA9, pZ9, pS9]
  refine wpAnyT_stay 9 (v := ?_) rfl (by kernel_rfl) (fun _ _ _ h => h) (Or.inl ⟨by rfl, ?_⟩) ⟨hH7.1, fun _ => hH7.2⟩ ?_
  rotate_left
  · (intro wx hx; go_simp <;> with_reducible rfl)
  try simp only [Act.put, pA9, pZ9, pS9]
  refine wpAnyT_last 10 rfl (by kernel_rfl) (by decide) (fun K hK => ?_)
  go_simp
  refine hK.out _ _ ?_ (fun hH10 => ?_)
  · trivial
  clear hK K
  try simp only [Act.put, pA9, pZ9, pS9]
  refine wpAnyT_done (by kernel_rfl) ?_ _
  have GS := Lh (GB.out.set_ 0 (.slice PA pn pc))
  have OS := Lh (Only.set_ w2 g 0 (.slice PA pn pc))
  obtain ⟨w3, hw3⟩ : ∃ w3, w2.setCell ⟨g, 0, none⟩ (.slice PA pn pc) = w3 := ⟨_, rfl⟩
  rw [hw3] at GS OS ⊢
  clear hw3 z0 z1
  clear hH hH6 hH7 hH10
  go_wp2
  go_ret
  have lo : ∀ k, pv.ownBlock = some k → k < w.heap.size := fun k e => (HO.out.lt k e).2
  have hne : ∀ k, k < w.heap.size → pv.ownBlock ≠ some k → (Value.slice PA pn pc).ownBlock ≠ some k := fun k hk hn e => by
    rcases HV2.out with h | h
    · exact hn (h.symm.trans e)
    · rw [h] at e; injection e with e; have := HB1.out.size; have := DW.out.size; omega
  refine ⟨rfl, ⟨_, GS.out, ?_, hne g HB.out.lt PG.out, fun k hk => hne k (hS.out k hk).1 (HH.out k hk)⟩, ?_⟩
  · have h := OS.out.own HO2.out (hne g HB.out.lt PG.out)
    rw [List.length_append, List.map_append]
    simpa using h
  · exact ((Keep.below DW.out).trans (Keep.below HB1.out)).trans ((Keep.grown HG2.out (fun k hk e => HH.out k hk e.symm)).trans (Keep.only OS.out (fun hk => (hS.out g hk).2 rfl)))
set_option maxRecDepth 100000 in
set_option maxHeartbeats 1000000 in
theorem pen_bytes (H : Nat → Prop) (g : Nat) (xs : List Nat) (E : Option Addr) (em ec : Nat) (ys : List Nat) (w : World) (hp : Hid (Pen H g xs w)) (hS : Hid (Safe H g w)) (HE : Hid (Reads w w.heap.size 1 E em (ys.map bv))) (hem : em ≤ 60000000000000) (hl : xs.length ≤ 70000000000000) :
    Calls Tryz.prog 70 #[.pointer (some ⟨g, 0, none⟩), .slice E em ec] w (RetPen H g (xs ++ (putN em ++ ys)) (.slice E em ec) w) := by
  obtain ⟨pv, hB, hO, hg, hh⟩ := hp.out.out
  obtain ⟨ii, hi1, hi2, hi3, hi4⟩ := info_parts Tryz.infoU8
  have y2 : w.cell? ⟨g, 2, none⟩ = some (.bool true) := hB.cell 2
  have HB := Lh hB
  have HO := Lh hO
  have PG := Lh hg
  have HH := Lh hh
  clear hB hO hg hh
  go_enter Tryz.func70, Tryz.ntmps70
  go_wp2
  refine wp_region_late (S0 := fun _ => True) (S := fun w' => w'.cell? ⟨g, 0, none⟩ = some pv) 10 11 (by kernel_rfl) rfl ⟨trivial, HB.out.cell 0⟩ (fun wd hwd hH => ?_)
  have DW := Lh (show Below w.heap.size w wd from by rw [hwd]; exact (Below.refl _ _).drew)
  clear hwd y2
  have GD := Lh (HB.out.below DW.out HB.out.lt)
  have OD := Lh (show wd.ownsRow 0 5 1 pv xs.length (xs.map bv) from HO.out.kept (row := none) ⟨DW.out.os, DW.out.tape, DW.out.output, DW.out.size, fun k hk _ => DW.out.block k hk⟩ (by cases pv.ownBlock <;> simp))
  refine wpAnyT_stay 0 (v := ?_) rfl (by kernel_rfl) (fun _ _ _ h => h) (Or.inl ⟨by rfl, ?_⟩) ⟨hH.1, fun _ => hH.2⟩ ?_
  rotate_left
  · (intro wx hx; go_simp <;> with_reducible rfl)
  try simp only [Act.put, pA9, pZ9, pS9]
  refine wpAnyT_stay 1 (v := ?_) rfl (by kernel_rfl) (fun _ _ _ h => h) (Or.inl ⟨by rfl, ?_⟩) ⟨hH.1, fun _ => hH.2⟩ ?_
  rotate_left
  · (intro wx hx; go_simp <;> with_reducible rfl)
  try simp only [Act.put, pA9, pZ9, pS9]
  refine wpAnyT_stay 2 (v := ?_) rfl (by kernel_rfl) (fun _ _ _ h => h) (Or.inl ⟨by rfl, ?_⟩) ⟨hH.1, fun _ => hH.2⟩ ?_
  rotate_left
  · (intro wx hx; go_simp <;> with_reducible rfl)
  try simp only [Act.put, pA9, pZ9, pS9]
  refine wpAnyT_stay 3 (v := ?_) rfl (by kernel_rfl) (fun _ _ _ h => h) (Or.inl ⟨by rfl, ?_⟩) ⟨hH.1, fun _ => hH.2⟩ ?_
  rotate_left
  · (intro wx hx; go_simp <;> with_reducible rfl)
  try simp only [Act.put, pA9, pZ9, pS9]
  refine wpAnyT_take 4 (v := ?_) rfl (by kernel_rfl) (fun _ _ _ h => h) (Or.inl ⟨by rfl, ?_⟩) hH ?_
  rotate_left
  · (intro wx hx; go_simp <;> with_reducible rfl)
  try simp only [Act.put, pA9, pZ9, pS9]
  refine wpAnyT_stay 5 (v := ?_) rfl (by kernel_rfl) (fun _ _ _ h => h) (Or.inl ⟨by rfl, ?_⟩) ⟨hH.1, fun _ => hH.2⟩ ?_
  rotate_left
  · (intro wx hx; go_simp <;> with_reducible rfl)
  try simp only [Act.put, pA9, pZ9, pS9]
  refine wpAnyT_one 6 rfl (by kernel_rfl) (fun K hK => ?_)
  go_simp
  (go_at_call 114; refine (rputbytes_any none E 0 ec 0 em [] (ys.map bv) _ Reads.none_ (fun u hu => by cases hu) (HE.out.later DW.out) (bv_one ys) (by omega)).mono ?_; rintro e w1 hr; obtain ⟨A1, cap1, rfl, r1, r2, r3, hb, -⟩ := hr.open; have R1 := Lh r1; have HB1 := Lh hb; clear r1 hb)
  refine hK.out _ _ ?_ (fun hH6 => ?_)
  · exact ⟨trivial, (HB1.out.cell (p := ⟨g, 0, none⟩) GD.out.lt).trans (GD.out.cell 0)⟩
  clear hK K
  try simp only [Act.put, pA9, pZ9, pS9]
  refine wpAnyT_one 7 rfl (by kernel_rfl) (fun K hK => ?_)
  refine step_append_any w1 rfl (.tmp 16) (.tmp 18) _ rfl 0 5 ii _ 1 1 Tryz.underlying33 hi1 hi2 hi3 hi4 rfl (by decide) pv xs.length (xs.map bv) rfl (OD.out.kept (row := none) ⟨HB1.out.os, HB1.out.tape, HB1.out.output, HB1.out.size, fun k hk _ => HB1.out.block k hk⟩ (by cases pv.ownBlock <;> simp)) _ A1 _ cap1 _ rfl R1.out ?_ ?_ ?_ (Nat.zero_le _) ?_
  · exact (fun u hu => bv_one (putN em ++ ys) u (by simpa using hu))
  · (have := putN_len1 em (by omega); have := HE.out.1; unfold maxLen; simp at *; omega)
  · (have := putN_len1 em (by omega); have := HE.out.1; simp at *; omega)
  intro pv2 w2 ho2 hg2 hv2
  obtain ⟨PA, pn, pc, rfl⟩ : ∃ PA pn pc, pv2 = .slice PA pn pc := (by obtain ⟨x, y, e, _⟩ := own_slice ho2; exact ⟨_, _, _, e⟩)
  have HO2 := Lh ho2
  have HG2 := Lh hg2
  have HV2 := Lh hv2
  clear ho2 hg2 hv2
  have GB := Lh ((GD.out.below HB1.out GD.out.lt).grown HG2.out (fun e => PG.out e.symm))
  have z0 : w2.cell? ⟨g, 0, none⟩ = some pv := GB.out.cell 0
  have z1 : w2.frozen? ⟨g, 0, none⟩ = false := GB.out.frozen 0
  refine hK.out _ _ ?_ (fun hH7 => ?_)
  · exact ⟨trivial, z0⟩
  clear hK K
  try simp only [Act.put]
  refine wpAnyT_stay 8 (v := ?_) rfl (by kernel_rfl) (fun _ _ _ h => h) (Or.inl ⟨by rfl, ?_⟩) ⟨hH7.1, fun _ => hH7.2⟩ ?_
  rotate_left
  · (intro wx hx; go_simp <;> with_reducible rfl)
  try simp only [Act.put, pA9, pZ9, pS9]
  refine wpAnyT_stay 9 (v := ?_) rfl (by kernel_rfl) (fun _ _ _ h => h) (Or.inl ⟨by rfl, ?_⟩) ⟨hH7.1, fun _ => hH7.2⟩ ?_
  rotate_left
  · (intro wx hx; go_simp <;> with_reducible rfl)
  try simp only [Act.put, pA9, pZ9, pS9]
  refine wpAnyT_last 10 rfl (by kernel_rfl) (by decide) (fun K hK => ?_)
  go_simp
  refine hK.out _ _ ?_ (fun hH10 => ?_)
  · trivial
  clear hK K
  try simp only [Act.put, pA9, pZ9, pS9]
  refine wpAnyT_done (by kernel_rfl) ?_ _
  have GS := Lh (GB.out.set_ 0 (.slice PA pn pc))
  have OS := Lh (Only.set_ w2 g 0 (.slice PA pn pc))
  obtain ⟨w3, hw3⟩ : ∃ w3, w2.setCell ⟨g, 0, none⟩ (.slice PA pn pc) = w3 := ⟨_, rfl⟩
  rw [hw3] at GS OS ⊢
  clear hw3 z0 z1
  clear hH hH6 hH7 hH10
  go_wp2
  go_ret
  have lo : ∀ k, pv.ownBlock = some k → k < w.heap.size := fun k e => (HO.out.lt k e).2
  have hne : ∀ k, k < w.heap.size → pv.ownBlock ≠ some k → (Value.slice PA pn pc).ownBlock ≠ some k := fun k hk hn e => by
    rcases HV2.out with h | h
    · exact hn (h.symm.trans e)
    · rw [h] at e; injection e with e; have := HB1.out.size; have := DW.out.size; omega
  refine ⟨rfl, ⟨_, GS.out, ?_, hne g HB.out.lt PG.out, fun k hk => hne k (hS.out k hk).1 (HH.out k hk)⟩, ?_⟩
  · have h := OS.out.own HO2.out (hne g HB.out.lt PG.out)
    rw [List.length_append, List.map_append]
    simpa using h
  · exact ((Keep.below DW.out).trans (Keep.below HB1.out)).trans ((Keep.grown HG2.out (fun k hk e => HH.out k hk e.symm)).trans (Keep.only OS.out (fun hk => (hS.out g hk).2 rfl)))
end Go.Proofs.YtlnneacgllhdhaaGreatDoor
end
