/-
  THE REFERENCE'S WRITER (layer 5's P): what each of its calls writes, and what it leaves alone; THE REFERENCE'S WRITER: lengths, short numbers, names, headers, rows of nothing, configurations, texts. (joined out of PenW1, PenW2 by shake.py)
-/
import Derived.Lib.ConvBytes
import Derived.Test.YtijdbdenmcjmmaaGreatDoorNen03
import Derived.Test.YtijdbdenmcjmmaaGreatDoorNen01
import Derived.Test.YtijdbdenmcjmmaaGreatDoorNen04
section
namespace Go.Proofs.YtijdbdenmcjmmaaGreatDoor
open Go.RowKit OctMath
set_option linter.unusedVariables false
structure Keep (H : Nat → Prop) (w w' : World) : Prop where
  os : w'.os = w.os
  tape : w'.tape = w.tape
  output : w'.output = w.output
  size : w.heap.size ≤ w'.heap.size
  block : ∀ k, H k → k < w.heap.size → w'.heap[k]? = w.heap[k]?
theorem Keep.refl (H : Nat → Prop) (w : World) : Keep H w w := ⟨rfl, rfl, rfl, Nat.le_refl _, fun _ _ _ => rfl⟩
theorem Keep.trans {H : Nat → Prop} {w w' w'' : World} (h : Keep H w w') (k : Keep H w' w'') : Keep H w w'' :=
  ⟨k.os.trans h.os, k.tape.trans h.tape, k.output.trans h.output, Nat.le_trans h.size k.size, fun i hi hl => (k.block i hi (Nat.lt_of_lt_of_le hl h.size)).trans (h.block i hi hl)⟩
theorem Keep.mono {H H' : Nat → Prop} {w w' : World} (h : Keep H w w') (hs : ∀ k, H' k → H k) : Keep H' w w' := ⟨h.os, h.tape, h.output, h.size, fun k hk => h.block k (hs k hk)⟩
theorem Keep.below {H : Nat → Prop} {w w' : World} (hb : Below w.heap.size w w') : Keep H w w' := ⟨hb.os, hb.tape, hb.output, hb.size, fun k _ hl => hb.block k hl⟩
theorem Keep.grown {H : Nat → Prop} {w w' : World} {row : Option Nat} (hg : w.grownBy w' row) (hr : ∀ k, H k → some k ≠ row) : Keep H w w' := ⟨hg.os, hg.tape, hg.output, hg.size, fun k hk hl => hg.block k hl (hr k hk)⟩
theorem Keep.only {H : Nat → Prop} {w w' : World} {g : Nat} (ho : Only g w w') (hg : ¬ H g) : Keep H w w' := Keep.grown ho.grown (fun k hk e => hg (by injection e with e; rwa [← e]))
theorem Keep.set_ (H : Nat → Prop) (w : World) {g : Nat} (i : Nat) (u : Value) (hg : ¬ H g) : Keep H w (w.setCell ⟨g, i, none⟩ u) := Keep.only (Only.set_ w g i u) hg
theorem Keep.alloc {H : Nat → Prop} {w w' : World} (h : Keep H w w') (o : Obj) : Keep H w (w'.alloc o) := h.trans (Keep.below ((Below.refl _ _).alloc (Nat.le_refl _) o))
theorem Keep.blk {H : Nat → Prop} {w w' : World} {g : Nat} {t : TypeId} {cs : Array Value} (h : Keep H w w') (hB : Blk w g t cs) (hg : H g) : Blk w' g t cs := (h.block g hg hB.lt).trans hB
theorem Keep.toBelow {H : Nat → Prop} {w w' : World} {B : Nat} (h : Keep H w w') (hB : B ≤ w.heap.size) (hs : ∀ k, k < B → H k) : Below B w w' := ⟨h.os, h.tape, h.output, h.size, fun k hk => h.block k (hs k hk) (by omega)⟩
theorem Keep.cell {H : Nat → Prop} {w w' : World} {p : Addr} {v : Value} (h : Keep H w w') (hc : w.cell? p = some v) (hp : H p.block) : w'.cell? p = some v := (World.cell?_of_block (h.block p.block hp (World.block_lt_of_cell? _ _ hc))).trans hc
theorem Keep.reads {H : Nat → Prop} {w w' : World} {A : Option Addr} {n size : Nat} {xs : List Value} (h : Keep H w w') (hr : Reads w w.heap.size size A n xs) (hp : 0 < n → ∀ ad, A = some ad → H ad.block) : Reads w' w'.heap.size size A n xs := by
  refine ⟨hr.1, fun hn => ?_⟩
  obtain ⟨ad, e, hb, hc⟩ := hr.2 hn
  exact ⟨ad, e, Nat.lt_of_lt_of_le hb h.size, fun j u hu => h.cell (hc j u hu) (by rw [block_of_add]; exact hp hn ad e)⟩
structure Pen (H : Nat → Prop) (g : Nat) (xs : List Nat) (w : World) : Prop where
  out : ∃ v, Blk w g 143 #[v, .int .i64 0, .bool true, .bool false] ∧ w.ownsRow 0 5 1 v xs.length (xs.map bv) ∧ v.ownBlock ≠ some g ∧ (∀ k, H k → v.ownBlock ≠ some k)
theorem Pen.lt {H : Nat → Prop} {g : Nat} {xs : List Nat} {w : World} (h : Pen H g xs w) : g < w.heap.size := by
  obtain ⟨v, hB, _⟩ := h.out
  exact hB.lt
theorem Pen.mono {H H' : Nat → Prop} {g : Nat} {xs : List Nat} {w : World} (h : Pen H g xs w) (hs : ∀ k, H' k → H k ∨ w.heap.size ≤ k) : Pen H' g xs w := by
  obtain ⟨v, hB, hO, hg, hh⟩ := h.out
  exact ⟨v, hB, hO, hg, fun k hk e => (hs k hk).elim (fun h => hh k h e) (fun h => by have := (hO.lt k e).2; omega)⟩
theorem Pen.later {H : Nat → Prop} {g : Nat} {xs : List Nat} {w w' : World} (h : Pen H g xs w) (hb : Below w.heap.size w w') : Pen H g xs w' := by
  obtain ⟨v, hB, hO, hg, hh⟩ := h.out
  exact ⟨v, hB.below hb hB.lt, hO.kept (row := none) ⟨hb.os, hb.tape, hb.output, hb.size, fun k hk _ => hb.block k hk⟩ (by cases h : v.ownBlock with | none => exact .inl rfl | some x => exact .inr (by simp)), hg, hh⟩
theorem Pen.only {H : Nat → Prop} {g k : Nat} {xs : List Nat} {w w' : World} (h : Pen H g xs w) (ho : Only k w w') (hk : H k) (hg' : k ≠ g) : Pen H g xs w' := by
  obtain ⟨v, hB, hO, hg, hh⟩ := h.out
  exact ⟨v, ho.blk hB (Ne.symm hg'), ho.own hO (hh k hk), hg, hh⟩
theorem Pen.alloc {H : Nat → Prop} {g : Nat} {xs : List Nat} {w : World} (h : Pen H g xs w) (o : Obj) : Pen H g xs (w.alloc o) := h.later ((Below.refl _ _).alloc (Nat.le_refl _) o)
def Safe (H : Nat → Prop) (g : Nat) (w : World) : Prop := ∀ k, H k → k < w.heap.size ∧ k ≠ g
def RetPen (H : Nat → Prop) (g : Nat) (ys : List Nat) (v : Value) (w : World) (e : Ending) (w' : World) : Prop := e = .returned v ∧ Pen H g ys w' ∧ Keep H w w'
set_option maxRecDepth 100000 in
set_option maxHeartbeats 1000000 in
theorem pen_u64 (H : Nat → Prop) (g : Nat) (xs : List Nat) (n : Nat) (w : World) (hp : Hid (Pen H g xs w)) (hS : Hid (Safe H g w)) (hn : n < 18446744073709551616) (hl : xs.length ≤ 70000000000000) :
    Calls Tryz.prog 60 #[.pointer (some ⟨g, 0, none⟩), .int .u64 n] w (RetPen H g (xs ++ putN n) (.int .u64 n) w) := by
  obtain ⟨pv, hB, hO, hg, hh⟩ := hp.out.out
  obtain ⟨ii, hi1, hi2, hi3, hi4⟩ := info_parts Tryz.infoU8
  have y2 : w.cell? ⟨g, 2, none⟩ = some (.bool true) := hB.cell 2
  have HB := Lh hB
  have HO := Lh hO
  have PG := Lh hg
  have HH := Lh hh
  clear hB hO hg hh
  go_enter Tryz.func60, Tryz.ntmps60
  go_wp2
  refine wp_region_late (S0 := fun _ => True) (S := fun w' => w'.cell? ⟨g, 0, none⟩ = some pv) 10 11 (by kernel_rfl) rfl ⟨trivial, HB.out.cell 0⟩ (fun wd hwd hH => ?_)
  have DW := Lh (show Below w.heap.size w wd from by rw [hwd]; exact (Below.refl _ _).drew)
  clear hwd y2
  have GD := Lh (HB.out.below DW.out HB.out.lt)
  have OD := Lh (show wd.ownsRow 0 5 1 pv xs.length (xs.map bv) from HO.out.kept (row := none) ⟨DW.out.os, DW.out.tape, DW.out.output, DW.out.size, fun k hk _ => DW.out.block k hk⟩ (by cases pv.ownBlock <;> simp))
  refine tS 0 rfl ?_ hH ?_ ?_
  rotate_left
  · (intro wx hx; go_simp <;> with_reducible rfl)
  try simp only [Act.put, pA9, pZ9, pS9]
  refine tS 1 rfl ?_ hH ?_ ?_
  rotate_left
  · (intro wx hx; go_simp <;> with_reducible rfl)
  try simp only [Act.put, pA9, pZ9, pS9]
  refine tS 2 rfl ?_ hH ?_ ?_
  rotate_left
  · (intro wx hx; go_simp <;> with_reducible rfl)
  try simp only [Act.put, pA9, pZ9, pS9]
  refine tS 3 rfl ?_ hH ?_ ?_
  rotate_left
  · (intro wx hx; go_simp <;> with_reducible rfl)
  try simp only [Act.put, pA9, pZ9, pS9]
  refine wpAnyT_take 4 (v := ?_) rfl (by kernel_rfl) (fun _ _ _ h => h) (Or.inl ⟨by rfl, ?_⟩) hH ?_
  rotate_left
  · (intro wx hx; go_simp <;> with_reducible rfl)
  try simp only [Act.put, pA9, pZ9, pS9]
  refine tS 5 rfl ?_ hH ?_ ?_
  rotate_left
  · (intro wx hx; go_simp <;> with_reducible rfl)
  try simp only [Act.put, pA9, pZ9, pS9]
  refine wpAnyT_one 6 rfl (by kernel_rfl) (fun K hK => ?_)
  go_simp
  (go_at_call 88; refine (rputnum_any none 0 0 n [] _ Reads.none_ (fun u hu => by cases hu) hn (by omega)).mono ?_; rintro e w1 hr; obtain ⟨A1, cap1, rfl, r1, r2, r3, hb, -⟩ := hr.open; have R1 := Lh r1; have HB1 := Lh hb; clear r1 hb)
  refine hK.out _ _ ?_ (fun hH6 => ?_)
  · exact ⟨trivial, (HB1.out.cell (p := ⟨g, 0, none⟩) GD.out.lt).trans (GD.out.cell 0)⟩
  clear hK K
  try simp only [Act.put, pA9, pZ9, pS9]
  refine wpAnyT_one 7 rfl (by kernel_rfl) (fun K hK => ?_)
  refine step_append_any w1 rfl (.tmp 16) (.tmp 18) _ rfl 0 5 ii _ 1 1 Tryz.underlying33 hi1 hi2 hi3 hi4 rfl (by decide) pv xs.length (xs.map bv) rfl (OD.out.kept (row := none) ⟨HB1.out.os, HB1.out.tape, HB1.out.output, HB1.out.size, fun k hk _ => HB1.out.block k hk⟩ (by cases pv.ownBlock <;> simp)) _ A1 _ cap1 _ rfl R1.out ?_ ?_ ?_ (Nat.zero_le _) ?_
  · exact (fun u hu => bv_one (putN n) u (by simpa using hu))
  · (have := putN_len1 n hn; unfold maxLen; simp at *; omega)
  · (have := putN_len1 n hn; simp at *; omega)
  intro pv2 w2 ho2 hg2 hv2
  obtain ⟨PA, pn, pc, rfl⟩ : ∃ PA pn pc, pv2 = .slice PA pn pc := (by obtain ⟨x, y, e, _⟩ := own_slice ho2; exact ⟨_, _, _, e⟩)
  have HO2 := Lh ho2
  have HG2 := Lh hg2
  have HV2 := Lh hv2
  clear ho2 hg2 hv2
  have GB := Lh ((GD.out.below HB1.out GD.out.lt).grown HG2.out (fun e => PG.out e.symm))
  have z0 : w2.cell? ⟨g, 0, none⟩ = some pv := GB.out.cell 0
  have z1 : w2.frozen? ⟨g, 0, none⟩ = false := GB.out.frozen 0
  refine hK.out _ _ ?_ (fun hH7 => ?_)
  · exact ⟨trivial, z0⟩
  clear hK K
  try simp only [Act.put]
  refine tS 8 rfl ?_ hH7 ?_ ?_
  rotate_left
  · (intro wx hx; go_simp <;> with_reducible rfl)
  try simp only [Act.put, pA9, pZ9, pS9]
  refine tS 9 rfl ?_ hH7 ?_ ?_
  rotate_left
  · (intro wx hx; go_simp <;> with_reducible rfl)
  try simp only [Act.put, pA9, pZ9, pS9]
  refine wpAnyT_last 10 rfl (by kernel_rfl) (by decide) (fun K hK => ?_)
  go_simp
  refine hK.out _ _ ?_ (fun hH10 => ?_)
  · trivial
  clear hK K
  try simp only [Act.put, pA9, pZ9, pS9]
  refine wpAnyT_done (by kernel_rfl) ?_ _
  have GS := Lh (GB.out.set_ 0 (.slice PA pn pc))
  have OS := Lh (Only.set_ w2 g 0 (.slice PA pn pc))
  obtain ⟨w3, hw3⟩ : ∃ w3, w2.setCell ⟨g, 0, none⟩ (.slice PA pn pc) = w3 := ⟨_, rfl⟩
  rw [hw3] at GS OS ⊢
  clear hw3 z0 z1
  clear hH hH6 hH7 hH10
  go_wp2
  go_ret
  have lo : ∀ k, pv.ownBlock = some k → k < w.heap.size := fun k e => (HO.out.lt k e).2
  have hne : ∀ k, k < w.heap.size → pv.ownBlock ≠ some k → (Value.slice PA pn pc).ownBlock ≠ some k := fun k hk hn e => by
    rcases HV2.out with h | h
    · exact hn (h.symm.trans e)
    · rw [h] at e; injection e with e; have := HB1.out.size; have := DW.out.size; omega
  refine ⟨rfl, ⟨_, GS.out, ?_, hne g HB.out.lt PG.out, fun k hk => hne k (hS.out k hk).1 (HH.out k hk)⟩, ?_⟩
  · have h := OS.out.own HO2.out (hne g HB.out.lt PG.out)
    rw [List.length_append, List.map_append]
    simpa using h
  · exact ((Keep.below DW.out).trans (Keep.below HB1.out)).trans ((Keep.grown HG2.out (fun k hk e => HH.out k hk e.symm)).trans (Keep.only OS.out (fun hk => (hS.out g hk).2 rfl)))
set_option maxRecDepth 100000 in
set_option maxHeartbeats 1000000 in
theorem pen_int (H : Nat → Prop) (g : Nat) (xs : List Nat) (n : Int) (w : World) (hp : Hid (Pen H g xs w)) (hS : Hid (Safe H g w)) (n1 : -9223372036854775808 ≤ n) (n2 : n ≤ 9223372036854775807) (hl : xs.length ≤ 70000000000000) :
    Calls Tryz.prog 59 #[.pointer (some ⟨g, 0, none⟩), .int .i64 n] w (RetPen H g (xs ++ putN (zz n)) (.int .i64 n) w) := by
  obtain ⟨pv, hB, hO, hg, hh⟩ := hp.out.out
  obtain ⟨ii, hi1, hi2, hi3, hi4⟩ := info_parts Tryz.infoU8
  have y2 : w.cell? ⟨g, 2, none⟩ = some (.bool true) := hB.cell 2
  have HB := Lh hB
  have HO := Lh hO
  have PG := Lh hg
  have HH := Lh hh
  clear hB hO hg hh
  go_enter Tryz.func59, Tryz.ntmps59
  go_wp2
  refine wp_region_late (S0 := fun _ => True) (S := fun w' => w'.cell? ⟨g, 0, none⟩ = some pv) 10 11 (by kernel_rfl) rfl ⟨trivial, HB.out.cell 0⟩ (fun wd hwd hH => ?_)
  have DW := Lh (show Below w.heap.size w wd from by rw [hwd]; exact (Below.refl _ _).drew)
  clear hwd y2
  have GD := Lh (HB.out.below DW.out HB.out.lt)
  have OD := Lh (show wd.ownsRow 0 5 1 pv xs.length (xs.map bv) from HO.out.kept (row := none) ⟨DW.out.os, DW.out.tape, DW.out.output, DW.out.size, fun k hk _ => DW.out.block k hk⟩ (by cases pv.ownBlock <;> simp))
  refine tS 0 rfl ?_ hH ?_ ?_
  rotate_left
  · (intro wx hx; go_simp <;> with_reducible rfl)
  try simp only [Act.put, pA9, pZ9, pS9]
  refine tS 1 rfl ?_ hH ?_ ?_
  rotate_left
  · (intro wx hx; go_simp <;> with_reducible rfl)
  try simp only [Act.put, pA9, pZ9, pS9]
  refine tS 2 rfl ?_ hH ?_ ?_
  rotate_left
  · (intro wx hx; go_simp <;> with_reducible rfl)
  try simp only [Act.put, pA9, pZ9, pS9]
  refine tS 3 rfl ?_ hH ?_ ?_
  rotate_left
  · (intro wx hx; go_simp <;> with_reducible rfl)
  try simp only [Act.put, pA9, pZ9, pS9]
  refine wpAnyT_take 4 (v := ?_) rfl (by kernel_rfl) (fun _ _ _ h => h) (Or.inl ⟨by rfl, ?_⟩) hH ?_
  rotate_left
  · (intro wx hx; go_simp <;> with_reducible rfl)
  try simp only [Act.put, pA9, pZ9, pS9]
  refine tS 5 rfl ?_ hH ?_ ?_
  rotate_left
  · (intro wx hx; go_simp <;> with_reducible rfl)
  try simp only [Act.put, pA9, pZ9, pS9]
  refine wpAnyT_one 6 rfl (by kernel_rfl) (fun K hK => ?_)
  go_simp
  (go_at_call 86; refine (rputint_any none 0 0 n [] _ Reads.none_ (fun u hu => by cases hu) n1 n2 (by omega)).mono ?_; rintro e w1 hr; obtain ⟨A1, cap1, rfl, r1, r2, r3, hb, -⟩ := hr.open; have R1 := Lh r1; have HB1 := Lh hb; clear r1 hb)
  refine hK.out _ _ ?_ (fun hH6 => ?_)
  · exact ⟨trivial, (HB1.out.cell (p := ⟨g, 0, none⟩) GD.out.lt).trans (GD.out.cell 0)⟩
  clear hK K
  try simp only [Act.put, pA9, pZ9, pS9]
  refine wpAnyT_one 7 rfl (by kernel_rfl) (fun K hK => ?_)
  refine step_append_any w1 rfl (.tmp 16) (.tmp 18) _ rfl 0 5 ii _ 1 1 Tryz.underlying33 hi1 hi2 hi3 hi4 rfl (by decide) pv xs.length (xs.map bv) rfl (OD.out.kept (row := none) ⟨HB1.out.os, HB1.out.tape, HB1.out.output, HB1.out.size, fun k hk _ => HB1.out.block k hk⟩ (by cases pv.ownBlock <;> simp)) _ A1 _ cap1 _ rfl R1.out ?_ ?_ ?_ (Nat.zero_le _) ?_
  · exact (fun u hu => bv_one (putN (zz n)) u (by simpa using hu))
  · (have := putN_len1 (zz n) (zz_lt n1 n2); unfold maxLen; simp at *; omega)
  · (have := putN_len1 (zz n) (zz_lt n1 n2); simp at *; omega)
  intro pv2 w2 ho2 hg2 hv2
  obtain ⟨PA, pn, pc, rfl⟩ : ∃ PA pn pc, pv2 = .slice PA pn pc := (by obtain ⟨x, y, e, _⟩ := own_slice ho2; exact ⟨_, _, _, e⟩)
  have HO2 := Lh ho2
  have HG2 := Lh hg2
  have HV2 := Lh hv2
  clear ho2 hg2 hv2
  have GB := Lh ((GD.out.below HB1.out GD.out.lt).grown HG2.out (fun e => PG.out e.symm))
  have z0 : w2.cell? ⟨g, 0, none⟩ = some pv := GB.out.cell 0
  have z1 : w2.frozen? ⟨g, 0, none⟩ = false := GB.out.frozen 0
  refine hK.out _ _ ?_ (fun hH7 => ?_)
  · exact ⟨trivial, z0⟩
  clear hK K
  try simp only [Act.put]
  refine tS 8 rfl ?_ hH7 ?_ ?_
  rotate_left
  · (intro wx hx; go_simp <;> with_reducible rfl)
  try simp only [Act.put, pA9, pZ9, pS9]
  refine tS 9 rfl ?_ hH7 ?_ ?_
  rotate_left
  · (intro wx hx; go_simp <;> with_reducible rfl)
  try simp only [Act.put, pA9, pZ9, pS9]
  refine wpAnyT_last 10 rfl (by kernel_rfl) (by decide) (fun K hK => ?_)
  go_simp
  refine hK.out _ _ ?_ (fun hH10 => ?_)
  · trivial
  clear hK K
  try simp only [Act.put, pA9, pZ9, pS9]
  refine wpAnyT_done (by kernel_rfl) ?_ _
  have GS := Lh (GB.out.set_ 0 (.slice PA pn pc))
  have OS := Lh (Only.set_ w2 g 0 (.slice PA pn pc))
  obtain ⟨w3, hw3⟩ : ∃ w3, w2.setCell ⟨g, 0, none⟩ (.slice PA pn pc) = w3 := ⟨_, rfl⟩
  rw [hw3] at GS OS ⊢
  clear hw3 z0 z1
  clear hH hH6 hH7 hH10
  go_wp2
  go_ret
  have lo : ∀ k, pv.ownBlock = some k → k < w.heap.size := fun k e => (HO.out.lt k e).2
  have hne : ∀ k, k < w.heap.size → pv.ownBlock ≠ some k → (Value.slice PA pn pc).ownBlock ≠ some k := fun k hk hn e => by
    rcases HV2.out with h | h
    · exact hn (h.symm.trans e)
    · rw [h] at e; injection e with e; have := HB1.out.size; have := DW.out.size; omega
  refine ⟨rfl, ⟨_, GS.out, ?_, hne g HB.out.lt PG.out, fun k hk => hne k (hS.out k hk).1 (HH.out k hk)⟩, ?_⟩
  · have h := OS.out.own HO2.out (hne g HB.out.lt PG.out)
    rw [List.length_append, List.map_append]
    simpa using h
  · exact ((Keep.below DW.out).trans (Keep.below HB1.out)).trans ((Keep.grown HG2.out (fun k hk e => HH.out k hk e.symm)).trans (Keep.only OS.out (fun hk => (hS.out g hk).2 rfl)))
set_option maxRecDepth 100000 in
set_option maxHeartbeats 1000000 in
theorem pen_flag (H : Nat → Prop) (g : Nat) (xs : List Nat) (b : Bool) (w : World) (hp : Hid (Pen H g xs w)) (hS : Hid (Safe H g w))  (hl : xs.length ≤ 70000000000000) :
    Calls Tryz.prog 61 #[.pointer (some ⟨g, 0, none⟩), .bool b] w (RetPen H g (xs ++ [b.toNat]) (.bool b) w) := by
  obtain ⟨pv, hB, hO, hg, hh⟩ := hp.out.out
  obtain ⟨ii, hi1, hi2, hi3, hi4⟩ := info_parts Tryz.infoU8
  have y2 : w.cell? ⟨g, 2, none⟩ = some (.bool true) := hB.cell 2
  have HB := Lh hB
  have HO := Lh hO
  have PG := Lh hg
  have HH := Lh hh
  clear hB hO hg hh
  go_enter Tryz.func61, Tryz.ntmps61
  go_wp2
  refine wp_region_late (S0 := fun _ => True) (S := fun w' => w'.cell? ⟨g, 0, none⟩ = some pv) 10 11 (by kernel_rfl) rfl ⟨trivial, HB.out.cell 0⟩ (fun wd hwd hH => ?_)
  have DW := Lh (show Below w.heap.size w wd from by rw [hwd]; exact (Below.refl _ _).drew)
  clear hwd y2
  have GD := Lh (HB.out.below DW.out HB.out.lt)
  have OD := Lh (show wd.ownsRow 0 5 1 pv xs.length (xs.map bv) from HO.out.kept (row := none) ⟨DW.out.os, DW.out.tape, DW.out.output, DW.out.size, fun k hk _ => DW.out.block k hk⟩ (by cases pv.ownBlock <;> simp))
  refine tS 0 rfl ?_ hH ?_ ?_
  rotate_left
  · (intro wx hx; go_simp <;> with_reducible rfl)
  try simp only [Act.put, pA9, pZ9, pS9]
  refine tS 1 rfl ?_ hH ?_ ?_
  rotate_left
  · (intro wx hx; go_simp <;> with_reducible rfl)
  try simp only [Act.put, pA9, pZ9, pS9]
  refine tS 2 rfl ?_ hH ?_ ?_
  rotate_left
  · (intro wx hx; go_simp <;> with_reducible rfl)
  try simp only [Act.put, pA9, pZ9, pS9]
  refine tS 3 rfl ?_ hH ?_ ?_
  rotate_left
  · (intro wx hx; go_simp <;> with_reducible rfl)
  try simp only [Act.put, pA9, pZ9, pS9]
  refine wpAnyT_take 4 (v := ?_) rfl (by kernel_rfl) (fun _ _ _ h => h) (Or.inl ⟨by rfl, ?_⟩) hH ?_
  rotate_left
  · (intro wx hx; go_simp <;> with_reducible rfl)
  try simp only [Act.put, pA9, pZ9, pS9]
  refine tS 5 rfl ?_ hH ?_ ?_
  rotate_left
  · (intro wx hx; go_simp <;> with_reducible rfl)
  try simp only [Act.put, pA9, pZ9, pS9]
  refine wpAnyT_one 6 rfl (by kernel_rfl) (fun K hK => ?_)
  go_simp
  (go_at_call 90; refine (rputflag_any b none 0 0 [] _ Reads.none_ (fun u hu => by cases hu) (by omega)).mono ?_; rintro e w1 hr; obtain ⟨A1, cap1, rfl, r1, r2, r3, hb, -⟩ := hr.open; have R1 := Lh r1; have HB1 := Lh hb; clear r1 hb)
  refine hK.out _ _ ?_ (fun hH6 => ?_)
  · exact ⟨trivial, (HB1.out.cell (p := ⟨g, 0, none⟩) GD.out.lt).trans (GD.out.cell 0)⟩
  clear hK K
  try simp only [Act.put, pA9, pZ9, pS9]
  refine wpAnyT_one 7 rfl (by kernel_rfl) (fun K hK => ?_)
  refine step_append_any w1 rfl (.tmp 16) (.tmp 18) _ rfl 0 5 ii _ 1 1 Tryz.underlying33 hi1 hi2 hi3 hi4 rfl (by decide) pv xs.length (xs.map bv) rfl (OD.out.kept (row := none) ⟨HB1.out.os, HB1.out.tape, HB1.out.output, HB1.out.size, fun k hk _ => HB1.out.block k hk⟩ (by cases pv.ownBlock <;> simp)) _ A1 _ cap1 _ rfl R1.out ?_ ?_ ?_ (Nat.zero_le _) ?_
  · exact (fun u hu => bv_one [b.toNat] u (by simpa using hu))
  · (unfold maxLen; simp; omega)
  · (simp; omega)
  intro pv2 w2 ho2 hg2 hv2
  obtain ⟨PA, pn, pc, rfl⟩ : ∃ PA pn pc, pv2 = .slice PA pn pc := (by obtain ⟨x, y, e, _⟩ := own_slice ho2; exact ⟨_, _, _, e⟩)
  have HO2 := Lh ho2
  have HG2 := Lh hg2
  have HV2 := Lh hv2
  clear ho2 hg2 hv2
  have GB := Lh ((GD.out.below HB1.out GD.out.lt).grown HG2.out (fun e => PG.out e.symm))
  have z0 : w2.cell? ⟨g, 0, none⟩ = some pv := GB.out.cell 0
  have z1 : w2.frozen? ⟨g, 0, none⟩ = false := GB.out.frozen 0
  refine hK.out _ _ ?_ (fun hH7 => ?_)
  · exact ⟨trivial, z0⟩
  clear hK K
  try simp only [Act.put]
  refine tS 8 rfl ?_ hH7 ?_ ?_
  rotate_left
  · (intro wx hx; go_simp <;> with_reducible rfl)
  try simp only [Act.put, pA9, pZ9, pS9]
  refine tS 9 rfl ?_ hH7 ?_ ?_
  rotate_left
  · (intro wx hx; go_simp <;> with_reducible rfl)
  try simp only [Act.put, pA9, pZ9, pS9]
  refine wpAnyT_last 10 rfl (by kernel_rfl) (by decide) (fun K hK => ?_)
  go_simp
  refine hK.out _ _ ?_ (fun hH10 => ?_)
  · trivial
  clear hK K
  try simp only [Act.put, pA9, pZ9, pS9]
  refine wpAnyT_done (by kernel_rfl) ?_ _
  have GS := Lh (GB.out.set_ 0 (.slice PA pn pc))
  have OS := Lh (Only.set_ w2 g 0 (.slice PA pn pc))
  obtain ⟨w3, hw3⟩ : ∃ w3, w2.setCell ⟨g, 0, none⟩ (.slice PA pn pc) = w3 := ⟨_, rfl⟩
  rw [hw3] at GS OS ⊢
  clear hw3 z0 z1
  clear hH hH6 hH7 hH10
  go_wp2
  go_ret
  have lo : ∀ k, pv.ownBlock = some k → k < w.heap.size := fun k e => (HO.out.lt k e).2
  have hne : ∀ k, k < w.heap.size → pv.ownBlock ≠ some k → (Value.slice PA pn pc).ownBlock ≠ some k := fun k hk hn e => by
    rcases HV2.out with h | h
    · exact hn (h.symm.trans e)
    · rw [h] at e; injection e with e; have := HB1.out.size; have := DW.out.size; omega
  refine ⟨rfl, ⟨_, GS.out, ?_, hne g HB.out.lt PG.out, fun k hk => hne k (hS.out k hk).1 (HH.out k hk)⟩, ?_⟩
  · have h := OS.out.own HO2.out (hne g HB.out.lt PG.out)
    rw [List.length_append, List.map_append]
    simpa using h
  · exact ((Keep.below DW.out).trans (Keep.below HB1.out)).trans ((Keep.grown HG2.out (fun k hk e => HH.out k hk e.symm)).trans (Keep.only OS.out (fun hk => (hS.out g hk).2 rfl)))
set_option maxRecDepth 100000 in
set_option maxHeartbeats 1000000 in
theorem pen_bytes (H : Nat → Prop) (g : Nat) (xs : List Nat) (E : Option Addr) (em ec : Nat) (ys : List Nat) (w : World) (hp : Hid (Pen H g xs w)) (hS : Hid (Safe H g w)) (HE : Hid (Reads w w.heap.size 1 E em (ys.map bv))) (hem : em ≤ 60000000000000) (hl : xs.length ≤ 70000000000000) :
    Calls Tryz.prog 65 #[.pointer (some ⟨g, 0, none⟩), .slice E em ec] w (RetPen H g (xs ++ (putN em ++ ys)) (.slice E em ec) w) := by
  obtain ⟨pv, hB, hO, hg, hh⟩ := hp.out.out
  obtain ⟨ii, hi1, hi2, hi3, hi4⟩ := info_parts Tryz.infoU8
  have y2 : w.cell? ⟨g, 2, none⟩ = some (.bool true) := hB.cell 2
  have HB := Lh hB
  have HO := Lh hO
  have PG := Lh hg
  have HH := Lh hh
  clear hB hO hg hh
  go_enter Tryz.func65, Tryz.ntmps65
  go_wp2
  refine wp_region_late (S0 := fun _ => True) (S := fun w' => w'.cell? ⟨g, 0, none⟩ = some pv) 10 11 (by kernel_rfl) rfl ⟨trivial, HB.out.cell 0⟩ (fun wd hwd hH => ?_)
  have DW := Lh (show Below w.heap.size w wd from by rw [hwd]; exact (Below.refl _ _).drew)
  clear hwd y2
  have GD := Lh (HB.out.below DW.out HB.out.lt)
  have OD := Lh (show wd.ownsRow 0 5 1 pv xs.length (xs.map bv) from HO.out.kept (row := none) ⟨DW.out.os, DW.out.tape, DW.out.output, DW.out.size, fun k hk _ => DW.out.block k hk⟩ (by cases pv.ownBlock <;> simp))
  refine tS 0 rfl ?_ hH ?_ ?_
  rotate_left
  · (intro wx hx; go_simp <;> with_reducible rfl)
  try simp only [Act.put, pA9, pZ9, pS9]
  refine tS 1 rfl ?_ hH ?_ ?_
  rotate_left
  · (intro wx hx; go_simp <;> with_reducible rfl)
  try simp only [Act.put, pA9, pZ9, pS9]
  refine tS 2 rfl ?_ hH ?_ ?_
  rotate_left
  · (intro wx hx; go_simp <;> with_reducible rfl)
  try simp only [Act.put, pA9, pZ9, pS9]
  refine tS 3 rfl ?_ hH ?_ ?_
  rotate_left
  · (intro wx hx; go_simp <;> with_reducible rfl)
  try simp only [Act.put, pA9, pZ9, pS9]
  refine wpAnyT_take 4 (v := ?_) rfl (by kernel_rfl) (fun _ _ _ h => h) (Or.inl ⟨by rfl, ?_⟩) hH ?_
  rotate_left
  · (intro wx hx; go_simp <;> with_reducible rfl)
  try simp only [Act.put, pA9, pZ9, pS9]
  refine tS 5 rfl ?_ hH ?_ ?_
  rotate_left
  · (intro wx hx; go_simp <;> with_reducible rfl)
  try simp only [Act.put, pA9, pZ9, pS9]
  refine wpAnyT_one 6 rfl (by kernel_rfl) (fun K hK => ?_)
  go_simp
  (go_at_call 96; refine (rputbytes_any none E 0 ec 0 em [] (ys.map bv) _ Reads.none_ (fun u hu => by cases hu) (HE.out.later DW.out) (bv_one ys) (by omega)).mono ?_; rintro e w1 hr; obtain ⟨A1, cap1, rfl, r1, r2, r3, hb, -⟩ := hr.open; have R1 := Lh r1; have HB1 := Lh hb; clear r1 hb)
  refine hK.out _ _ ?_ (fun hH6 => ?_)
  · exact ⟨trivial, (HB1.out.cell (p := ⟨g, 0, none⟩) GD.out.lt).trans (GD.out.cell 0)⟩
  clear hK K
  try simp only [Act.put, pA9, pZ9, pS9]
  refine wpAnyT_one 7 rfl (by kernel_rfl) (fun K hK => ?_)
  refine step_append_any w1 rfl (.tmp 16) (.tmp 18) _ rfl 0 5 ii _ 1 1 Tryz.underlying33 hi1 hi2 hi3 hi4 rfl (by decide) pv xs.length (xs.map bv) rfl (OD.out.kept (row := none) ⟨HB1.out.os, HB1.out.tape, HB1.out.output, HB1.out.size, fun k hk _ => HB1.out.block k hk⟩ (by cases pv.ownBlock <;> simp)) _ A1 _ cap1 _ rfl R1.out ?_ ?_ ?_ (Nat.zero_le _) ?_
  · exact (fun u hu => bv_one (putN em ++ ys) u (by simpa using hu))
  · (have := putN_len1 em (by omega); have := HE.out.1; unfold maxLen; simp at *; omega)
  · (have := putN_len1 em (by omega); have := HE.out.1; simp at *; omega)
  intro pv2 w2 ho2 hg2 hv2
  obtain ⟨PA, pn, pc, rfl⟩ : ∃ PA pn pc, pv2 = .slice PA pn pc := (by obtain ⟨x, y, e, _⟩ := own_slice ho2; exact ⟨_, _, _, e⟩)
  have HO2 := Lh ho2
  have HG2 := Lh hg2
  have HV2 := Lh hv2
  clear ho2 hg2 hv2
  have GB := Lh ((GD.out.below HB1.out GD.out.lt).grown HG2.out (fun e => PG.out e.symm))
  have z0 : w2.cell? ⟨g, 0, none⟩ = some pv := GB.out.cell 0
  have z1 : w2.frozen? ⟨g, 0, none⟩ = false := GB.out.frozen 0
  refine hK.out _ _ ?_ (fun hH7 => ?_)
  · exact ⟨trivial, z0⟩
  clear hK K
  try simp only [Act.put]
  refine tS 8 rfl ?_ hH7 ?_ ?_
  rotate_left
  · (intro wx hx; go_simp <;> with_reducible rfl)
  try simp only [Act.put, pA9, pZ9, pS9]
  refine tS 9 rfl ?_ hH7 ?_ ?_
  rotate_left
  · (intro wx hx; go_simp <;> with_reducible rfl)
  try simp only [Act.put, pA9, pZ9, pS9]
  refine wpAnyT_last 10 rfl (by kernel_rfl) (by decide) (fun K hK => ?_)
  go_simp
  refine hK.out _ _ ?_ (fun hH10 => ?_)
  · trivial
  clear hK K
  try simp only [Act.put, pA9, pZ9, pS9]
  refine wpAnyT_done (by kernel_rfl) ?_ _
  have GS := Lh (GB.out.set_ 0 (.slice PA pn pc))
  have OS := Lh (Only.set_ w2 g 0 (.slice PA pn pc))
  obtain ⟨w3, hw3⟩ : ∃ w3, w2.setCell ⟨g, 0, none⟩ (.slice PA pn pc) = w3 := ⟨_, rfl⟩
  rw [hw3] at GS OS ⊢
  clear hw3 z0 z1
  clear hH hH6 hH7 hH10
  go_wp2
  go_ret
  have lo : ∀ k, pv.ownBlock = some k → k < w.heap.size := fun k e => (HO.out.lt k e).2
  have hne : ∀ k, k < w.heap.size → pv.ownBlock ≠ some k → (Value.slice PA pn pc).ownBlock ≠ some k := fun k hk hn e => by
    rcases HV2.out with h | h
    · exact hn (h.symm.trans e)
    · rw [h] at e; injection e with e; have := HB1.out.size; have := DW.out.size; omega
  refine ⟨rfl, ⟨_, GS.out, ?_, hne g HB.out.lt PG.out, fun k hk => hne k (hS.out k hk).1 (HH.out k hk)⟩, ?_⟩
  · have h := OS.out.own HO2.out (hne g HB.out.lt PG.out)
    rw [List.length_append, List.map_append]
    simpa using h
  · exact ((Keep.below DW.out).trans (Keep.below HB1.out)).trans ((Keep.grown HG2.out (fun k hk e => HH.out k hk e.symm)).trans (Keep.only OS.out (fun hk => (hS.out g hk).2 rfl)))
end Go.Proofs.YtijdbdenmcjmmaaGreatDoor
end
section
namespace Go.Proofs.YtijdbdenmcjmmaaGreatDoor
open Go.RowKit OctMath
set_option linter.unusedVariables false
def Two (H : Nat → Prop) (b : Nat) : Nat → Prop := fun k => H k ∨ k = b ∨ k = b + 1
structure Wr (t : TypeId) (H : Nat → Prop) (g b : Nat) (cs zs : Array Value) (w0 : World) (ys : List Nat) (w : World) : Prop where
  pen : Pen (Two H b) g ys w
  safe : Safe (Two H b) g w
  blk : Blk w b t cs
  res : Blk w (b + 1) t zs
  keep : Keep H w0 w
  nb : ¬ H b
  nr : ¬ H (b + 1)
section
variable {t : TypeId} {H : Nat → Prop} {g b : Nat} {cs zs : Array Value} {w0 w w' : World} {ys more : List Nat} {v : Value} {e : Ending}
theorem Wr.start (hp : Pen H g ys w) (hs : Safe H g w) (cs zs : Array Value) (t : TypeId) : Wr t H g w.heap.size cs zs w ys ((w.alloc (.cells cs t)).alloc (.cells zs t)) :=
  ⟨((hp.mono (H' := Two H w.heap.size) (fun k hk => by rcases hk with h | h | h; exact .inl h; exact .inr (by omega); exact .inr (by omega))).alloc _).alloc _,
   fun k hk => by
    have hl := hp.lt
    rcases hk with h | h | h
    · exact ⟨by have := (hs k h).1; simp; omega, (hs k h).2⟩
    · exact ⟨by simp; omega, by omega⟩
    · exact ⟨by simp; omega, by omega⟩,
   (Blk.new _ _ _).alloc _, by have h := Blk.new (w.alloc (.cells cs t)) t zs; simpa using h,
   ((Keep.refl H w).alloc _).alloc _, fun h => by have := (hs _ h).1; omega, fun h => by have := (hs _ h).1; omega⟩
theorem Wr.call (h : Wr t H g b cs zs w0 ys w) (hr : RetPen (Two H b) g (ys ++ more) v w e w') : Wr t H g b cs zs w0 (ys ++ more) w' := by
  obtain ⟨_, hp, hk⟩ := hr
  exact ⟨hp, fun k hq => ⟨Nat.lt_of_lt_of_le (h.safe k hq).1 hk.size, (h.safe k hq).2⟩, hk.blk h.blk (.inr (.inl rfl)), hk.blk h.res (.inr (.inr rfl)), h.keep.trans (hk.mono fun k hq => .inl hq), h.nb, h.nr⟩
theorem Wr.only {k : Nat} {cs' zs' : Array Value} (h : Wr t H g b cs zs w0 ys w) (hk : Two H b k) (hn : ¬ H k) (ho : Only k w w') (h1 : Blk w' b t cs') (h2 : Blk w' (b + 1) t zs') : Wr t H g b cs' zs' w0 ys w' :=
  ⟨h.pen.only ho hk (h.safe k hk).2, fun j hj => ⟨by rw [ho.size]; exact (h.safe j hj).1, (h.safe j hj).2⟩, h1, h2, h.keep.trans (Keep.only ho hn), h.nb, h.nr⟩
end
set_option maxRecDepth 100000 in
theorem pen_len (H : Nat → Prop) (g : Nat) (xs : List Nat) (n : Nat) (w : World) (hp : Hid (Pen H g xs w)) (hS : Hid (Safe H g w)) (hn : n < 9223372036854775808) (hl : xs.length ≤ 70000000000000) :
    Calls Tryz.prog 67 #[.pointer (some ⟨g, 0, none⟩), .int .i64 n] w (RetPen H g (xs ++ putN n) (.int .i64 n) w) := by
  have e1 : IntKind.u64.wrap (n : Int) = (n : Int) := IntWalk.u64_in _ (by omega)
  go_enter Tryz.func67, Tryz.ntmps67
  go_wp2_with (go_at_call 60; refine (pen_u64 H g xs n _ hp hS (by omega) hl).mono ?_; rintro e w1 ⟨rfl, p1, k1⟩; have P1 := Lh p1; have K1 := Lh k1; have y2 : w1.cell? ⟨g, 2, none⟩ = some (.bool true) := (by obtain ⟨v, hB, _⟩ := p1.out; exact hB.cell 2); clear p1 k1)
  go_ret
  exact ⟨rfl, P1.out, K1.out⟩
set_option maxRecDepth 100000 in
theorem pen_u32 (H : Nat → Prop) (g : Nat) (xs : List Nat) (n : Nat) (w : World) (hp : Hid (Pen H g xs w)) (hS : Hid (Safe H g w)) (hn : n < 4294967296) (hl : xs.length ≤ 70000000000000) :
    Calls Tryz.prog 95 #[.pointer (some ⟨g, 0, none⟩), .int .u32 n] w (RetPen H g (xs ++ putN n) (.int .u32 n) w) := by
  have e0 : (n : Int) / 4294967296 = 0 := by omega
  go_enter Tryz.func95, Tryz.ntmps95
  go_wp2_with (go_at_call 60; refine (pen_u64 H g xs n _ hp hS (by omega) hl).mono ?_; rintro e w1 ⟨rfl, p1, k1⟩; have P1 := Lh p1; have K1 := Lh k1; clear p1 k1)
  go_ret
  exact ⟨rfl, P1.out, K1.out⟩
def octs (s : ByteArray) : List Nat := s.data.toList.map (·.toNat)
theorem octs_len (s : ByteArray) : (octs s).length = s.size := by unfold octs; rw [List.length_map, Array.length_toList]; rfl
theorem strOf_octs (s : ByteArray) : strOf (octs s) = s := by
  unfold strOf octs
  rw [List.map_map, show (UInt8.ofNat ∘ fun b : UInt8 => b.toNat) = id from by funext b; simp, List.map_id]
theorem octs_bel (w : World) (e : TypeId) (s : ByteArray) : Below w.heap.size w (Lib.bytesWorld w e s) := by
  have h : Below w.heap.size w (w.drew.alloc (.cells (Lib.bytesCells w e s) e)) := ((Below.refl _ _).drew).alloc (Nat.le_refl _) _
  exact ⟨h.os, h.tape, h.output, by rw [Lib.bytesWorld_size]; omega, fun j hj => Lib.bytesWorld_at_old w e s j hj⟩
theorem octs_reads (w : World) (e : TypeId) (s : ByteArray) : Reads (Lib.bytesWorld w e s) (w.heap.size + 1) 1 (some ⟨w.heap.size, 0, none⟩) s.size ((octs s).map bv) := by
  refine ⟨by rw [List.length_map, octs_len]; omega, fun _ => ⟨_, rfl, Nat.lt_succ_self _, fun j u hu => ?_⟩⟩
  have hj : j < s.size := by
    rw [← octs_len s, ← List.length_map (f := bv)]
    exact (List.getElem?_eq_some_iff.1 hu).1
  have h5 : (⟨w.heap.size, 0, none⟩ : Addr).add j = ⟨w.heap.size, j, none⟩ := by unfold Addr.add; split <;> simp_all
  rw [h5, Lib.bytesWorld_cell w e s j hj, ← hu]
  have hj' : j < s.data.toList.length := by rw [Array.length_toList]; exact hj
  simp only [octs, List.getElem?_map, List.getElem?_eq_getElem hj', Option.map_some, bv, List.getD_eq_getElem?_getD, Option.getD_some]
set_option maxRecDepth 100000 in
set_option maxHeartbeats 1000000 in
theorem pen_text (H : Nat → Prop) (g : Nat) (xs : List Nat) (key : ByteArray) (w : World) (hp : Hid (Pen H g xs w)) (hS : Hid (Safe H g w)) (hk : key.size ≤ 60000000000000) (hl : xs.length ≤ 70000000000000) :
    Calls Tryz.prog 66 #[.pointer (some ⟨g, 0, none⟩), .string key] w (RetPen H g (xs ++ (putN key.size ++ octs key)) (.string key) w) := by
  have kc := fun W : World => Lib.run_convert_string_bytes (P := Tryz.prog) W 9 33 5 key Tryz.underlying9 Tryz.underlying33 Tryz.underlying5
  have hb := octs_bel w 5 key
  have hr := octs_reads w 5 key
  have sz : (Lib.bytesWorld w 5 key).heap.size = w.heap.size + 1 := Lib.bytesWorld_size w 5 key
  have HP : Hid (Pen (fun k => H k ∨ k = w.heap.size) g xs (Lib.bytesWorld w 5 key)) := Lh ((hp.out.mono fun k hk => by rcases hk with h | h; exact .inl h; exact .inr (by omega)).later hb)
  have HS : Hid (Safe (fun k => H k ∨ k = w.heap.size) g (Lib.bytesWorld w 5 key)) := Lh fun k hk => by
    have hg := hp.out.lt
    rcases hk with h | h
    · exact ⟨by have := (hS.out k h).1; omega, (hS.out k h).2⟩
    · exact ⟨by omega, by omega⟩
  have HR := Lh (hr.more (B' := (Lib.bytesWorld w 5 key).heap.size) (by rw [sz]; omega))
  have HB := Lh hb
  clear hb hr sz
  obtain ⟨gc, hgc⟩ : ∃ gc, grownCap w key.size 0 5 = gc := ⟨_, rfl⟩
  have kc1 := kc w
  rw [hgc] at kc1
  clear kc
  go_enter Tryz.func66, Tryz.ntmps66
  go_wp2_with (go_at_call 65; refine (pen_bytes _ g xs (some ⟨w.heap.size, 0, none⟩) key.size gc (octs key) _ HP HS HR (by omega) hl).mono ?_; rintro e w1 ⟨rfl, p1, k1⟩; have P1 := Lh p1; have K1 := Lh k1; have kc2 := run_conv_bytes (P := Tryz.prog) (src := 33) (dst := 9) (cap := gc) Tryz.underlying33 Tryz.underlying5 Tryz.underlying9 (k1.reads HR.out (fun _ ad e => by injection e with e; rw [← e]; exact .inr rfl)); rw [strOf_octs] at kc2; clear p1 k1 kc1)
  go_ret
  exact ⟨rfl, P1.out.mono fun k hk => .inl (.inl hk), (Keep.below HB.out).trans (K1.out.mono fun k hk => .inl hk)⟩
end Go.Proofs.YtijdbdenmcjmmaaGreatDoor
end
