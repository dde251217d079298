/-
  wire.page: took of headers, confs, entries. (printed by gen_wirt2.py). (joined out of WirT2 by shake.py)
-/
import Derived.Test.YtijdbdenmcjmmaaGreatDoorNen13
import Derived.Test.YtijdbdenmcjmmaaGreatDoorNen20
import Derived.Test.YtijdbdenmcjmmaaGreatDoorNen04
section
namespace Go.Proofs.YtijdbdenmcjmmaaGreatDoor
open Go.RowKit OctMath
set_option linter.unusedVariables false
set_option linter.unusedSimpArgs false
/-! What was read stays: behind what is made anew, and where one old block alone turns. -/
theorem Lst.below {lo size : Nat} {A : Option Addr} {c k : Nat} {xs : List Value} {w w' : World} (h : Lst lo size A c k xs w) (hb : Below w.heap.size w w') : Lst lo size A c k xs w' := ⟨h.rd.later hb, h.lo, h.kc, h.cm⟩
theorem PX.only {g : Nat} {A : Option Addr} {n cap : Nat} {bs : List Nat} {w w' : World} {y : Nat} (h : PX g A n cap bs w) (k : Only y w w') (hy : y ≠ g) (hne : 0 < n → ∀ ad, A = some ad → Not y ad.block) : PX g A n cap bs w' :=
  ⟨by obtain ⟨p, hp, hB⟩ := h.blk; exact ⟨p, hp, k.blk hB (fun e => hy e.symm)⟩, h.inb.keep (Keep.only k (fun h => h rfl)) hne, h.ne⟩
theorem Keep.only_new {H : Nat → Prop} {w w' w'' : World} {y : Nat} (h : Keep H w w') (ho : Only y w' w'') (hy : w.heap.size ≤ y) : Keep H w w'' := ⟨ho.os.trans h.os, ho.tape.trans h.tape, ho.output.trans h.output, by rw [ho.size]; exact h.size, fun k hk hl => (ho.block k (by omega)).trans (h.block k hk hl)⟩
def Stays {α : Type} (lo : Nat) (val : α → World → Value → Prop) : Prop := (∀ x w w' v, val x w v → Below w.heap.size w w' → val x w' v) ∧ (∀ x y w w' v, val x w v → Only y w w' → y < lo → val x w' v)
theorem stays_hd (lo : Nat) : Stays lo vHd := ⟨fun x w w' v h _ => h, fun x y w w' v h _ _ => h⟩
theorem stays_conf (lo : Nat) : Stays lo (vConf lo) := ⟨fun x w w' v ⟨A1, c1, A2, c2, e, l1, l2, h⟩ hb => ⟨A1, c1, A2, c2, e, l1.below hb, l2.below hb, h⟩,
  fun x y w w' v ⟨A1, c1, A2, c2, e, l1, l2, h⟩ ho hy => ⟨A1, c1, A2, c2, e, l1.only ho (l1.apart_lo hy), l2.only ho (l2.apart_lo hy), h⟩⟩
theorem stays_ent (lo : Nat) : Stays lo (vEnt lo) := ⟨fun x w w' v ⟨A1, c1, A2, c2, A3, c3, e, l1, l2, l3, h⟩ hb => ⟨A1, c1, A2, c2, A3, c3, e, l1.below hb, l2.below hb, l3.below hb, h⟩,
  fun x y w w' v ⟨A1, c1, A2, c2, A3, c3, e, l1, l2, l3, h⟩ ho hy => ⟨A1, c1, A2, c2, A3, c3, e, l1.only ho (l1.apart_lo hy), l2.only ho (l2.apart_lo hy), l3.only ho (l3.apart_lo hy), h⟩⟩
theorem lo_hd {lo' : Nat} {x : HdT} {w : World} {v : Value} (h : vHd x w v) (hl : lo' ≤ lo') : vHd x w v := h
theorem lo_conf {lo lo' : Nat} {x : List Int × List Int} {w : World} {v : Value} (h : vConf lo x w v) (hl : lo' ≤ lo) : vConf lo' x w v := by
  obtain ⟨A1, c1, A2, c2, e, l1, l2, h⟩ := h
  exact ⟨A1, c1, A2, c2, e, l1.mono hl, l2.mono hl, h⟩
theorem lo_ent {lo lo' : Nat} {x : EntT} {w : World} {v : Value} (h : vEnt lo x w v) (hl : lo' ≤ lo) : vEnt lo' x w v := by
  obtain ⟨A1, c1, A2, c2, A3, c3, e, l1, l2, l3, h⟩ := h
  exact ⟨A1, c1, A2, c2, A3, c3, e, l1.mono hl, l2.mono hl, l3.mono hl, h⟩
theorem agg_hd {x : HdT} {w : World} {v : Value} (h : vHd x w v) : ∃ cs : Array Value, v = .agg cs ∧ cs.size = 7 ∧ cs.toList.all (·.oneCell') = true := ⟨_, h.1, rfl, rfl⟩
theorem agg_conf {lo : Nat} {x : List Int × List Int} {w : World} {v : Value} (h : vConf lo x w v) : ∃ cs : Array Value, v = .agg cs ∧ cs.size = 2 ∧ cs.toList.all (·.oneCell') = true := by
  obtain ⟨A1, c1, A2, c2, e, -⟩ := h
  exact ⟨_, e, rfl, rfl⟩
theorem agg_ent {lo : Nat} {x : EntT} {w : World} {v : Value} (h : vEnt lo x w v) : ∃ cs : Array Value, v = .agg cs ∧ cs.size = 21 ∧ cs.toList.all (·.oneCell') = true := by
  obtain ⟨A1, c1, A2, c2, A3, c3, e, -⟩ := h
  exact ⟨_, e, rfl, rfl⟩
set_option maxRecDepth 100000 in
set_option maxHeartbeats 4000000 in
theorem wt_hd (g : Nat) (A : Option Addr) (n cap : Nat) (bs : List Nat) (p : Nat) (w : World) (hP : Hid (PW g A n cap bs p w)) :
    Calls Tryz.prog 28 #[.pointer (some ⟨g, 0, none⟩), .func (.func 29) #[] #[]] w (RetT (rHd bs p) vHd (.agg #[.int .u64 0, .int .i64 0, .int .u64 0, .int .i64 0, .int .i64 0, .int .i64 0, .int .u32 0]) g A n cap bs w) := by
  have HG := Lh hP.out.blk.lt
  obtain ⟨w0, ew0⟩ : ∃ w0, w.alloc (.cells #[.int .u64 0, .int .i64 0, .int .u64 0, .int .i64 0, .int .i64 0, .int .i64 0, .int .u32 0] 32) = w0 := ⟨_, rfl⟩
  obtain ⟨w1, ew1⟩ : ∃ w1, w0.alloc (.cells #[.int .u64 0, .int .i64 0, .int .u64 0, .int .i64 0, .int .i64 0, .int .i64 0, .int .u32 0] 32) = w1 := ⟨_, rfl⟩
  have hx0 : Blk (w.alloc (.cells #[.int .u64 0, .int .i64 0, .int .u64 0, .int .i64 0, .int .i64 0, .int .i64 0, .int .u32 0] 32)) w.heap.size 32 #[.int .u64 0, .int .i64 0, .int .u64 0, .int .i64 0, .int .i64 0, .int .i64 0, .int .u32 0] := Blk.new w _ _
  have hb0 : Below w.heap.size w (w.alloc (.cells #[.int .u64 0, .int .i64 0, .int .u64 0, .int .i64 0, .int .i64 0, .int .i64 0, .int .u32 0] 32)) := (Below.refl _ _).alloc (Nat.le_refl _) _
  have hs0 : (w.alloc (.cells #[.int .u64 0, .int .i64 0, .int .u64 0, .int .i64 0, .int .i64 0, .int .i64 0, .int .u32 0] 32)).heap.size = w.heap.size + 1 := by simp
  rw [ew0] at hx0 hb0 hs0
  have hx1 : Blk (w0.alloc (.cells #[.int .u64 0, .int .i64 0, .int .u64 0, .int .i64 0, .int .i64 0, .int .i64 0, .int .u32 0] 32)) w0.heap.size 32 #[.int .u64 0, .int .i64 0, .int .u64 0, .int .i64 0, .int .i64 0, .int .i64 0, .int .u32 0] := Blk.new w0 _ _
  have hx0 := hx0.alloc (.cells #[.int .u64 0, .int .i64 0, .int .u64 0, .int .i64 0, .int .i64 0, .int .i64 0, .int .u32 0] 32)
  have hb1 : Below w0.heap.size w0 (w0.alloc (.cells #[.int .u64 0, .int .i64 0, .int .u64 0, .int .i64 0, .int .i64 0, .int .i64 0, .int .u32 0] 32)) := (Below.refl _ _).alloc (Nat.le_refl _) _
  have hs1 : (w0.alloc (.cells #[.int .u64 0, .int .i64 0, .int .u64 0, .int .i64 0, .int .i64 0, .int .i64 0, .int .u32 0] 32)).heap.size = w0.heap.size + 1 := by simp
  rw [ew1] at hx0 hx1 hb1 hs1
  have hp1 := (hP.out.below hb0).below hb1
  have hk1 : Keep (Not g) w w1 := (Keep.below hb0).trans (Keep.below hb1)
  have c2 := hp1.blk.cell 2
  have HP1 := Lh hp1
  have HK1 := Lh hk1
  have HR1 := Lh hx0
  have HN1 := Lh hx1
  have HS := Lh (And.intro hs0 hs1)
  have hrg := Lh (show w.heap.size ≠ g from by have := HG.out; omega)
  have HPL := Lh hP.out.pl
  have HAL := Lh (show 0 < n → ∀ ad, A = some ad → ad.block < w.heap.size from fun h0 ad e => by obtain ⟨ad', e', hb, -⟩ := hP.out.inb.rd.2 h0; rw [e] at e'; obtain rfl := Option.some.inj e'; exact hb)
  have HB := Lh hP.out.inb.byt
  have HLN := Lh hP.out.inb.len
  clear hx0 hx1 hb0 hb1 hs0 hs1 hp1 hk1 hP
  go_enter Tryz.func28, Tryz.ntmps28
  go_upto_region 4 with (first | rw [ew0] | rw [ew1] | fail)
  clear ew0 ew1 c2
  have HPD := Lh HP1.out.drew
  have HRD := Lh HR1.out.drew
  have HND := Lh HN1.out.drew
  have HKD := Lh (HK1.out.trans keep_drew)
  clear HP1 HR1 HN1 HK1
  refine wp_region_late (S0 := fun w' => w'.cell? ⟨g, 0, none⟩ = some (.slice A n cap) ∧ w'.cell? ⟨g, 1, none⟩ = some (.int .i64 (p : Int))) (S := fun _ => True) 15 18 (by kernel_rfl) rfl ⟨⟨HPD.out.blk.cell 0, HPD.out.blk.cell 1⟩, trivial⟩ (fun wd hwd hH => ?_)
  have hsd : wd.heap.size = w1.heap.size := by rw [hwd]; rfl
  rw [← hwd] at HPD HRD HND HKD
  clear hwd
  refine tS 0 rfl ?_ hH ?_ ?_
  rotate_left
  · (intro wx hx; obtain ⟨hx1, hx2⟩ := hx; go_simp <;> with_reducible rfl)
  try simp only [Act.put, pA9, pZ9, pS9]
  refine tS 1 rfl ?_ hH ?_ ?_
  rotate_left
  · (intro wx hx; obtain ⟨hx1, hx2⟩ := hx; go_simp <;> with_reducible rfl)
  try simp only [Act.put, pA9, pZ9, pS9]
  refine tS 5 rfl ?_ hH ?_ ?_
  rotate_left
  · (intro wx hx; obtain ⟨hx1, hx2⟩ := hx; go_simp <;> with_reducible rfl)
  try simp only [Act.put, pA9, pZ9, pS9]
  refine tS 2 rfl ?_ hH ?_ ?_
  rotate_left
  · (intro wx hx; obtain ⟨hx1, hx2⟩ := hx; go_simp <;> with_reducible rfl)
  try simp only [Act.put, pA9, pZ9, pS9]
  refine tS 3 rfl ?_ hH ?_ ?_
  rotate_left
  · (intro wx hx; obtain ⟨hx1, hx2⟩ := hx; go_simp <;> with_reducible rfl)
  try simp only [Act.put, pA9, pZ9, pS9]
  refine tS 4 rfl ?_ hH ?_ ?_
  rotate_left
  · (intro wx hx; obtain ⟨hx1, hx2⟩ := hx; go_simp <;> with_reducible rfl)
  try simp only [Act.put, pA9, pZ9, pS9]
  refine tS 6 rfl ?_ hH ?_ ?_
  rotate_left
  · (intro wx hx; obtain ⟨hx1, hx2⟩ := hx; go_simp <;> with_reducible rfl)
  try simp only [Act.put, pA9, pZ9, pS9]
  refine tS 7 rfl ?_ hH ?_ ?_
  rotate_left
  · (intro wx hx; obtain ⟨hx1, hx2⟩ := hx; go_simp <;> with_reducible rfl)
  try simp only [Act.put, pA9, pZ9, pS9]
  refine tS 8 rfl ?_ hH ?_ ?_
  rotate_left
  · (intro wx hx; obtain ⟨hx1, hx2⟩ := hx; go_simp <;> with_reducible rfl)
  try simp only [Act.put, pA9, pZ9, pS9]
  refine wpAnyT_two 9 14 rfl rfl (by kernel_rfl) (fun K hK => ?_) (fun K hK => ?_)
  · rw [if_pos (by rfl)]
    go_simp
    go_at_call 29
    refine (hd_read A n cap bs p _ (Lh HPD.out.inb) HPL.out).mono ?_
    cases hr : rHd bs p with
    | none =>
      rintro e w3 ⟨hb, rfl⟩
      have HP3 := Lh (HPD.out.below hb)
      have HR3 := Lh (HRD.out.below hb HRD.out.lt)
      have HN3 := Lh (HND.out.below hb HND.out.lt)
      have HK3 := Lh (HKD.out.trans (Keep.below hb))
      have hsz3 : wd.heap.size ≤ w3.heap.size := hb.size
      clear hb
      refine hK.out _ _ ⟨⟨HP3.out.blk.cell 0, HP3.out.blk.cell 1⟩, trivial⟩ (fun hH3 => ?_)
      clear hK K
      try simp only [Act.put, pA9, pZ9, pS9]
      refine tS 10 rfl ?_ hH3 ?_ ?_
      rotate_left
      · (intro wx hx; clear hx; go_simp <;> with_reducible rfl)
      try simp only [Act.put, pA9, pZ9, pS9]
      refine tS 11 rfl ?_ hH3 ?_ ?_
      rotate_left
      · (intro wx hx; clear hx; go_simp <;> with_reducible rfl)
      try simp only [Act.put, pA9, pZ9, pS9]
      refine tS 12 rfl ?_ hH3 ?_ ?_
      rotate_left
      · (intro wx hx; clear hx; go_simp <;> with_reducible rfl)
      try simp only [Act.put, pA9, pZ9, pS9]
      refine tS 13 rfl ?_ hH3 ?_ ?_
      rotate_left
      · (intro wx hx; clear hx; go_simp <;> with_reducible rfl)
      try simp only [Act.put, pA9, pZ9, pS9]
      refine wpAnyT_one 14 rfl (by kernel_rfl) (fun K hK => ?_)
      rw [if_pos (by rfl)]
      go_simp
      obtain ⟨w4, ew4⟩ : ∃ w4, w3.alloc (.cells #[.int .u64 0, .int .i64 0, .int .u64 0, .int .i64 0, .int .i64 0, .int .i64 0, .int .u32 0] 32) = w4 := ⟨_, rfl⟩
      have hx4 : Blk (w3.alloc (.cells #[.int .u64 0, .int .i64 0, .int .u64 0, .int .i64 0, .int .i64 0, .int .i64 0, .int .u32 0] 32)) w3.heap.size 32 #[.int .u64 0, .int .i64 0, .int .u64 0, .int .i64 0, .int .i64 0, .int .i64 0, .int .u32 0] := Blk.new w3 _ _
      have hb4 : Below w3.heap.size w3 (w3.alloc (.cells #[.int .u64 0, .int .i64 0, .int .u64 0, .int .i64 0, .int .i64 0, .int .i64 0, .int .u32 0] 32)) := (Below.refl _ _).alloc (Nat.le_refl _) _
      rw [ew4] at hx4 hb4
      rw [ew4]
      obtain ⟨hv, ehv⟩ : ∃ hv, w3.heap.size = hv := ⟨_, rfl⟩
      have HP4 := Lh (HP3.out.below hb4)
      have HR4 := Lh (HR3.out.below hb4 HR3.out.lt)
      have HN4 := Lh (HN3.out.below hb4 HN3.out.lt)
      have HK4 := Lh (HK3.out.trans (Keep.below hb4))
      rw [ehv] at hx4
      have HV4 := Lh hx4
      have hvg := Lh (show hv ≠ g from by have := HG.out; have := HS.out; omega)
      have hvr := Lh (show hv ≠ w.heap.size ∧ hv ≠ w0.heap.size from by have := HS.out; omega)
      have hvl := Lh (show w.heap.size ≤ hv from by have := HS.out; omega)
      have hlo := Lh (show w.heap.size < wd.heap.size from by have := HS.out; omega)
      clear hx4 ew4
      try rw [ehv]
      refine hK.out _ _ ⟨⟨HP4.out.blk.cell 0, HP4.out.blk.cell 1⟩, trivial⟩ (fun hH4 => ?_)
      clear hK K
      try simp only [Act.put, pA9, pZ9, pS9]
      refine wpAnyT_last 15 rfl (by kernel_rfl) (by decide) (fun K hK => ?_)
      refine step_store_blk rfl 32 (.tmp 6) (.tmp 26) rfl hv 32 #[.int .u64 0, .int .i64 0, .int .u64 0, .int .i64 0, .int .i64 0, .int .i64 0, .int .u32 0] #[.int .u64 0, .int .i64 0, .int .u64 0, .int .i64 0, .int .i64 0, .int .i64 0, .int .u32 0] rfl rfl HV4.out rfl Tryz.sizeH rfl ?_
      intro wf hBf hOf
      have HPw := Lh (HP4.out.only hOf.out hvg.out (fun h0 ad e => by have := HAL.out h0 ad e; have := hvl.out; show ad.block ≠ hv; omega))
      have HRw := Lh (hOf.out.blk HR4.out (fun e => hvr.out.1 e.symm))
      have HNw := Lh (hOf.out.blk HN4.out (fun e => hvr.out.2 e.symm))
      have HKw := Lh (HK4.out.only_new hOf.out hvl.out)
      have HVw := Lh hBf.out
      clear hb4 ehv
      refine hK.out _ _ ⟨HPw.out.blk.cell 0, HPw.out.blk.cell 1⟩ (fun hHf => ?_)
      clear hK K
      try simp only [Act.put, pA9, pZ9, pS9]
      refine tT 16 rfl ?_ ⟨hHf, fun h => absurd h (by decide)⟩ ?_ ?_
      rotate_left
      · (intro wx hx; clear hx; go_simp <;> with_reducible rfl)
      try simp only [Act.put, pA9, pZ9, pS9]
      refine tT 17 rfl ?_ ⟨hHf, fun h => absurd h (by decide)⟩ ?_ ?_
      rotate_left
      · (intro wx hx; clear hx; go_simp <;> with_reducible rfl)
      try simp only [Act.put, pA9, pZ9, pS9]
      refine wpAnyT_done (by kernel_rfl) ?_ _
      clear hH hH3 hHf
      have HF := Lh HPw.out.fail
      have HRk := Lh (HF.out.2.notBlk HRw.out hrg.out)
      have hng := Lh (show w0.heap.size ≠ g from by have := HG.out; have := HS.out; omega)
      have HNk := Lh (HF.out.2.notBlk HNw.out hng.out)
      have d2 := HPw.out.blk.cell 2
      have f2 := HPw.out.blk.frozen 2
      obtain ⟨wk, ewk⟩ : ∃ wk, wf.setCell ⟨g, 2, none⟩ (.iface 94 (.int .i64 50)) = wk := ⟨_, rfl⟩
      rw [ewk] at HF HRk HNk
      go_wp2_with (first
        | rw [ewk]
        | (refine wpl_load_blk rfl 32 (.tmp 5) rfl w0.heap.size 32 #[.int .u64 0, .int .i64 0, .int .u64 0, .int .i64 0, .int .i64 0, .int .i64 0, .int .u32 0] _ rfl HNk.out Tryz.underlying32 rfl Tryz.sizeH ?_)
        | (refine wpl_store_blk rfl 32 (.tmp 4) (.tmp 35) rfl w.heap.size 32 #[.int .u64 0, .int .i64 0, .int .u64 0, .int .i64 0, .int .i64 0, .int .i64 0, .int .u32 0] #[.int .u64 0, .int .i64 0, .int .u64 0, .int .i64 0, .int .i64 0, .int .i64 0, .int .u32 0] rfl rfl HRk.out rfl Tryz.sizeH rfl ?_; intro w9 hB9 hO9))
      refine bodyPost_ret (v := .agg #[.int .u64 0, .int .i64 0, .int .u64 0, .int .i64 0, .int .i64 0, .int .i64 0, .int .u32 0]) (res_c Tryz.results28 rfl (load_blk hB9.out Tryz.underlying32 rfl Tryz.sizeH)) rfl ?_
      rw [hr]
      refine ⟨(HKw.out.trans HF.out.2).only_new hO9.out (Nat.le_refl _), rfl, HF.out.1.only hO9.out hrg.out (fun h0 ad e => by have := HAL.out h0 ad e; show ad.block ≠ w.heap.size; omega)⟩
    | some y =>
      obtain ⟨y, q⟩ := y
      rintro e w3 ⟨hb, v, rfl, hv9⟩
      have HQ := Lh (show q ≤ n from by have := ((wr_hd HB.out).1 p y q hr (by rw [HLN.out]; exact HPL.out)).2.1; rw [HLN.out] at this; exact this)
      obtain ⟨cs, rfl, hcs, hone⟩ := agg_hd hv9
      have hcs := Lh hcs
      have hone := Lh hone
      have HV9 := Lh hv9
      clear hv9
      have HP3 := Lh (HPD.out.below hb)
      have HR3 := Lh (HRD.out.below hb HRD.out.lt)
      have HN3 := Lh (HND.out.below hb HND.out.lt)
      have HK3 := Lh (HKD.out.trans (Keep.below hb))
      have hsz3 : wd.heap.size ≤ w3.heap.size := hb.size
      clear hb
      refine hK.out _ _ ⟨⟨HP3.out.blk.cell 0, HP3.out.blk.cell 1⟩, trivial⟩ (fun hH3 => ?_)
      clear hK K
      try simp only [Act.put, pA9, pZ9, pS9]
      refine tS 10 rfl ?_ hH3 ?_ ?_
      rotate_left
      · (intro wx hx; clear hx; go_simp <;> with_reducible rfl)
      try simp only [Act.put, pA9, pZ9, pS9]
      refine tS 11 rfl ?_ hH3 ?_ ?_
      rotate_left
      · (intro wx hx; clear hx; go_simp <;> with_reducible rfl)
      try simp only [Act.put, pA9, pZ9, pS9]
      refine tS 12 rfl ?_ hH3 ?_ ?_
      rotate_left
      · (intro wx hx; clear hx; go_simp <;> with_reducible rfl)
      try simp only [Act.put, pA9, pZ9, pS9]
      refine tS 13 rfl ?_ hH3 ?_ ?_
      rotate_left
      · (intro wx hx; clear hx; go_simp <;> with_reducible rfl)
      try simp only [Act.put, pA9, pZ9, pS9]
      refine wpAnyT_one 14 rfl (by kernel_rfl) (fun K hK => ?_)
      rw [if_pos (by rfl)]
      go_simp
      obtain ⟨w4, ew4⟩ : ∃ w4, w3.alloc (.cells #[.int .u64 0, .int .i64 0, .int .u64 0, .int .i64 0, .int .i64 0, .int .i64 0, .int .u32 0] 32) = w4 := ⟨_, rfl⟩
      have hx4 : Blk (w3.alloc (.cells #[.int .u64 0, .int .i64 0, .int .u64 0, .int .i64 0, .int .i64 0, .int .i64 0, .int .u32 0] 32)) w3.heap.size 32 #[.int .u64 0, .int .i64 0, .int .u64 0, .int .i64 0, .int .i64 0, .int .i64 0, .int .u32 0] := Blk.new w3 _ _
      have hb4 : Below w3.heap.size w3 (w3.alloc (.cells #[.int .u64 0, .int .i64 0, .int .u64 0, .int .i64 0, .int .i64 0, .int .i64 0, .int .u32 0] 32)) := (Below.refl _ _).alloc (Nat.le_refl _) _
      rw [ew4] at hx4 hb4
      rw [ew4]
      obtain ⟨hv, ehv⟩ : ∃ hv, w3.heap.size = hv := ⟨_, rfl⟩
      have HP4 := Lh (HP3.out.below hb4)
      have HR4 := Lh (HR3.out.below hb4 HR3.out.lt)
      have HN4 := Lh (HN3.out.below hb4 HN3.out.lt)
      have HK4 := Lh (HK3.out.trans (Keep.below hb4))
      rw [ehv] at hx4
      have HV4 := Lh hx4
      have hvg := Lh (show hv ≠ g from by have := HG.out; have := HS.out; omega)
      have hvr := Lh (show hv ≠ w.heap.size ∧ hv ≠ w0.heap.size from by have := HS.out; omega)
      have hvl := Lh (show w.heap.size ≤ hv from by have := HS.out; omega)
      have hlo := Lh (show w.heap.size < wd.heap.size from by have := HS.out; omega)
      clear hx4 ew4
      try rw [ehv]
      refine hK.out _ _ ⟨⟨HP4.out.blk.cell 0, HP4.out.blk.cell 1⟩, trivial⟩ (fun hH4 => ?_)
      clear hK K
      try simp only [Act.put, pA9, pZ9, pS9]
      refine wpAnyT_last 15 rfl (by kernel_rfl) (by decide) (fun K hK => ?_)
      refine step_store_blk rfl 32 (.tmp 6) (.tmp 26) rfl hv 32 #[.int .u64 0, .int .i64 0, .int .u64 0, .int .i64 0, .int .i64 0, .int .i64 0, .int .u32 0] cs rfl rfl HV4.out hcs.out.symm (by rw [hcs.out]; exact Tryz.sizeH) hone.out ?_
      intro wf hBf hOf
      have HPw := Lh (HP4.out.only hOf.out hvg.out (fun h0 ad e => by have := HAL.out h0 ad e; have := hvl.out; show ad.block ≠ hv; omega))
      have HRw := Lh (hOf.out.blk HR4.out (fun e => hvr.out.1 e.symm))
      have HNw := Lh (hOf.out.blk HN4.out (fun e => hvr.out.2 e.symm))
      have HKw := Lh (HK4.out.only_new hOf.out hvl.out)
      have HVw := Lh hBf.out
      have HV9 := Lh ((stays_hd wd.heap.size).1 _ _ _ _ HV9.out (hb4.trans (hOf.out.below (by omega))))
      clear hb4 ehv
      refine hK.out _ _ ⟨HPw.out.blk.cell 0, HPw.out.blk.cell 1⟩ (fun hHf => ?_)
      clear hK K
      try simp only [Act.put, pA9, pZ9, pS9]
      refine tT 16 rfl ?_ ⟨hHf, fun h => absurd h (by decide)⟩ ?_ ?_
      rotate_left
      · (intro wx hx; clear hx; go_simp <;> with_reducible rfl)
      try simp only [Act.put, pA9, pZ9, pS9]
      refine tT 17 rfl ?_ ⟨hHf, fun h => absurd h (by decide)⟩ ?_ ?_
      rotate_left
      · (intro wx hx; clear hx; go_simp <;> with_reducible rfl)
      try simp only [Act.put, pA9, pZ9, pS9]
      refine wpAnyT_done (by kernel_rfl) ?_ _
      clear hH hH3 hHf
      have HF := Lh (HPw.out.put (q := q) HQ.out)
      have HRk := Lh (HF.out.2.notBlk HRw.out hrg.out)
      have HVk := Lh (HF.out.2.notBlk HVw.out hvg.out)
      have d1 := HPw.out.blk.cell 1
      have f1 := HPw.out.blk.frozen 1
      obtain ⟨wk, ewk⟩ : ∃ wk, wf.setCell ⟨g, 1, none⟩ (.int .i64 (q : Int)) = wk := ⟨_, rfl⟩
      have hOk := Lh (show Only g wf wk from by rw [← ewk]; exact Only.set_ wf g 1 _)
      rw [ewk] at HF HRk HVk
      go_wp2_with (first
        | rw [ewk]
        | (refine wpl_load_blk rfl 32 (.tmp 6) rfl hv 32 cs _ rfl HVk.out Tryz.underlying32 rfl (by rw [hcs.out]; exact Tryz.sizeH) ?_)
        | (refine wpl_store_blk rfl 32 (.tmp 4) (.tmp 40) rfl w.heap.size 32 #[.int .u64 0, .int .i64 0, .int .u64 0, .int .i64 0, .int .i64 0, .int .i64 0, .int .u32 0] cs rfl rfl HRk.out hcs.out.symm (by rw [hcs.out]; exact Tryz.sizeH) hone.out ?_; intro w9 hB9 hO9))
      refine bodyPost_ret (v := .agg cs) (res_c Tryz.results28 rfl (load_blk hB9.out Tryz.underlying32 rfl (by rw [hcs.out]; exact Tryz.sizeH))) rfl ?_
      rw [hr]
      refine ⟨(HKw.out.trans HF.out.2).only_new hO9.out (Nat.le_refl _), _, rfl, ?_, HF.out.1.only hO9.out hrg.out (fun h0 ad e => by have := HAL.out h0 ad e; show ad.block ≠ w.heap.size; omega)⟩
      have hll := hlo.out
      have hss := HS.out
      have hgg := HG.out
      have v1 := (stays_hd wd.heap.size).2 _ g _ _ _ HV9.out hOk.out (by omega)
      have v2 := (stays_hd wd.heap.size).2 _ w.heap.size _ _ _ v1 hO9.out (by omega)
      exact lo_hd (lo' := w.heap.size) v2 (by omega)
  · rw [if_pos (by rfl)]
    go_simp
    obtain ⟨w2, ew2⟩ : ∃ w2, wd.alloc (.cells #[.int .u64 0, .int .i64 0, .int .u64 0, .int .i64 0, .int .i64 0, .int .i64 0, .int .u32 0] 32) = w2 := ⟨_, rfl⟩
    have hx2 : Blk (wd.alloc (.cells #[.int .u64 0, .int .i64 0, .int .u64 0, .int .i64 0, .int .i64 0, .int .i64 0, .int .u32 0] 32)) wd.heap.size 32 #[.int .u64 0, .int .i64 0, .int .u64 0, .int .i64 0, .int .i64 0, .int .i64 0, .int .u32 0] := Blk.new wd _ _
    have hb2 : Below wd.heap.size wd (wd.alloc (.cells #[.int .u64 0, .int .i64 0, .int .u64 0, .int .i64 0, .int .i64 0, .int .i64 0, .int .u32 0] 32)) := (Below.refl _ _).alloc (Nat.le_refl _) _
    have hs2 : (wd.alloc (.cells #[.int .u64 0, .int .i64 0, .int .u64 0, .int .i64 0, .int .i64 0, .int .i64 0, .int .u32 0] 32)).heap.size = wd.heap.size + 1 := by simp
    rw [ew2] at hx2 hb2 hs2
    rw [ew2]
    rw [hsd] at hx2 hs2
    obtain ⟨hv, ehv⟩ : ∃ hv, w1.heap.size = hv := ⟨_, rfl⟩
    rw [ehv] at hx2 hs2
    have HPA := Lh (HPD.out.below hb2)
    have HRA := Lh (HRD.out.below hb2 HRD.out.lt)
    have HNA := Lh (HND.out.below hb2 HND.out.lt)
    have HKA := Lh (HKD.out.trans (Keep.below hb2))
    have HVA := Lh hx2
    have hvg := Lh (show hv ≠ g from by have := HG.out; have := HS.out; omega)
    have hvr := Lh (show hv ≠ w.heap.size ∧ hv ≠ w0.heap.size from by have := HS.out; omega)
    have hvl := Lh (show w.heap.size ≤ hv from by have := HS.out; omega)
    have hlo := Lh (show hv < w2.heap.size ∧ w.heap.size < w2.heap.size from by have := HS.out; omega)
    clear hx2 hb2 hs2 ew2
    try rw [ehv]
    clear ehv
    refine hK.out _ _ ⟨⟨HPA.out.blk.cell 0, HPA.out.blk.cell 1⟩, trivial⟩ (fun hHa => ?_)
    clear hK K
    try simp only [Act.put, pA9, pZ9, pS9]
    refine wpAnyT_one 9 rfl (by kernel_rfl) (fun K hK => ?_)
    rw [if_pos (by rfl)]
    go_simp
    go_at_call 29
    refine (hd_read A n cap bs p _ (Lh HPA.out.inb) HPL.out).mono ?_
    cases hr : rHd bs p with
    | none =>
      rintro e w3 ⟨hb, rfl⟩
      have HP3 := Lh (HPA.out.below hb)
      have HR3 := Lh (HRA.out.below hb HRA.out.lt)
      have HN3 := Lh (HNA.out.below hb HNA.out.lt)
      have HK3 := Lh (HKA.out.trans (Keep.below hb))
      have hsz3 : w2.heap.size ≤ w3.heap.size := hb.size
      have HV3 := Lh (HVA.out.below hb HVA.out.lt)
      clear hb
      refine hK.out _ _ ⟨⟨HP3.out.blk.cell 0, HP3.out.blk.cell 1⟩, trivial⟩ (fun hH3 => ?_)
      clear hK K
      try simp only [Act.put, pA9, pZ9, pS9]
      refine tS 10 rfl ?_ hH3 ?_ ?_
      rotate_left
      · (intro wx hx; clear hx; go_simp <;> with_reducible rfl)
      try simp only [Act.put, pA9, pZ9, pS9]
      refine tS 11 rfl ?_ hH3 ?_ ?_
      rotate_left
      · (intro wx hx; clear hx; go_simp <;> with_reducible rfl)
      try simp only [Act.put, pA9, pZ9, pS9]
      refine tS 12 rfl ?_ hH3 ?_ ?_
      rotate_left
      · (intro wx hx; clear hx; go_simp <;> with_reducible rfl)
      try simp only [Act.put, pA9, pZ9, pS9]
      refine tS 13 rfl ?_ hH3 ?_ ?_
      rotate_left
      · (intro wx hx; clear hx; go_simp <;> with_reducible rfl)
      try simp only [Act.put, pA9, pZ9, pS9]
      refine wpAnyT_last 15 rfl (by kernel_rfl) (by decide) (fun K hK => ?_)
      refine step_store_blk rfl 32 (.tmp 6) (.tmp 26) rfl hv 32 #[.int .u64 0, .int .i64 0, .int .u64 0, .int .i64 0, .int .i64 0, .int .i64 0, .int .u32 0] #[.int .u64 0, .int .i64 0, .int .u64 0, .int .i64 0, .int .i64 0, .int .i64 0, .int .u32 0] rfl rfl HV3.out rfl Tryz.sizeH rfl ?_
      intro wf hBf hOf
      have HPw := Lh (HP3.out.only hOf.out hvg.out (fun h0 ad e => by have := HAL.out h0 ad e; have := hvl.out; show ad.block ≠ hv; omega))
      have HRw := Lh (hOf.out.blk HR3.out (fun e => hvr.out.1 e.symm))
      have HNw := Lh (hOf.out.blk HN3.out (fun e => hvr.out.2 e.symm))
      have HKw := Lh (HK3.out.only_new hOf.out hvl.out)
      have HVw := Lh hBf.out
      refine hK.out _ _ ⟨HPw.out.blk.cell 0, HPw.out.blk.cell 1⟩ (fun hHf => ?_)
      clear hK K
      try simp only [Act.put, pA9, pZ9, pS9]
      refine tT 16 rfl ?_ ⟨hHf, fun h => absurd h (by decide)⟩ ?_ ?_
      rotate_left
      · (intro wx hx; clear hx; go_simp <;> with_reducible rfl)
      try simp only [Act.put, pA9, pZ9, pS9]
      refine tT 17 rfl ?_ ⟨hHf, fun h => absurd h (by decide)⟩ ?_ ?_
      rotate_left
      · (intro wx hx; clear hx; go_simp <;> with_reducible rfl)
      try simp only [Act.put, pA9, pZ9, pS9]
      refine wpAnyT_done (by kernel_rfl) ?_ _
      clear hH hH3 hHf
      have HF := Lh HPw.out.fail
      have HRk := Lh (HF.out.2.notBlk HRw.out hrg.out)
      have hng := Lh (show w0.heap.size ≠ g from by have := HG.out; have := HS.out; omega)
      have HNk := Lh (HF.out.2.notBlk HNw.out hng.out)
      have d2 := HPw.out.blk.cell 2
      have f2 := HPw.out.blk.frozen 2
      obtain ⟨wk, ewk⟩ : ∃ wk, wf.setCell ⟨g, 2, none⟩ (.iface 94 (.int .i64 50)) = wk := ⟨_, rfl⟩
      rw [ewk] at HF HRk HNk
      go_wp2_with (first
        | rw [ewk]
        | (refine wpl_load_blk rfl 32 (.tmp 5) rfl w0.heap.size 32 #[.int .u64 0, .int .i64 0, .int .u64 0, .int .i64 0, .int .i64 0, .int .i64 0, .int .u32 0] _ rfl HNk.out Tryz.underlying32 rfl Tryz.sizeH ?_)
        | (refine wpl_store_blk rfl 32 (.tmp 4) (.tmp 35) rfl w.heap.size 32 #[.int .u64 0, .int .i64 0, .int .u64 0, .int .i64 0, .int .i64 0, .int .i64 0, .int .u32 0] #[.int .u64 0, .int .i64 0, .int .u64 0, .int .i64 0, .int .i64 0, .int .i64 0, .int .u32 0] rfl rfl HRk.out rfl Tryz.sizeH rfl ?_; intro w9 hB9 hO9))
      refine bodyPost_ret (v := .agg #[.int .u64 0, .int .i64 0, .int .u64 0, .int .i64 0, .int .i64 0, .int .i64 0, .int .u32 0]) (res_c Tryz.results28 rfl (load_blk hB9.out Tryz.underlying32 rfl Tryz.sizeH)) rfl ?_
      rw [hr]
      refine ⟨(HKw.out.trans HF.out.2).only_new hO9.out (Nat.le_refl _), rfl, HF.out.1.only hO9.out hrg.out (fun h0 ad e => by have := HAL.out h0 ad e; show ad.block ≠ w.heap.size; omega)⟩
    | some y =>
      obtain ⟨y, q⟩ := y
      rintro e w3 ⟨hb, v, rfl, hv9⟩
      have HQ := Lh (show q ≤ n from by have := ((wr_hd HB.out).1 p y q hr (by rw [HLN.out]; exact HPL.out)).2.1; rw [HLN.out] at this; exact this)
      obtain ⟨cs, rfl, hcs, hone⟩ := agg_hd hv9
      have hcs := Lh hcs
      have hone := Lh hone
      have HV9 := Lh hv9
      clear hv9
      have HP3 := Lh (HPA.out.below hb)
      have HR3 := Lh (HRA.out.below hb HRA.out.lt)
      have HN3 := Lh (HNA.out.below hb HNA.out.lt)
      have HK3 := Lh (HKA.out.trans (Keep.below hb))
      have hsz3 : w2.heap.size ≤ w3.heap.size := hb.size
      have HV3 := Lh (HVA.out.below hb HVA.out.lt)
      clear hb
      refine hK.out _ _ ⟨⟨HP3.out.blk.cell 0, HP3.out.blk.cell 1⟩, trivial⟩ (fun hH3 => ?_)
      clear hK K
      try simp only [Act.put, pA9, pZ9, pS9]
      refine tS 10 rfl ?_ hH3 ?_ ?_
      rotate_left
      · (intro wx hx; clear hx; go_simp <;> with_reducible rfl)
      try simp only [Act.put, pA9, pZ9, pS9]
      refine tS 11 rfl ?_ hH3 ?_ ?_
      rotate_left
      · (intro wx hx; clear hx; go_simp <;> with_reducible rfl)
      try simp only [Act.put, pA9, pZ9, pS9]
      refine tS 12 rfl ?_ hH3 ?_ ?_
      rotate_left
      · (intro wx hx; clear hx; go_simp <;> with_reducible rfl)
      try simp only [Act.put, pA9, pZ9, pS9]
      refine tS 13 rfl ?_ hH3 ?_ ?_
      rotate_left
      · (intro wx hx; clear hx; go_simp <;> with_reducible rfl)
      try simp only [Act.put, pA9, pZ9, pS9]
      refine wpAnyT_last 15 rfl (by kernel_rfl) (by decide) (fun K hK => ?_)
      refine step_store_blk rfl 32 (.tmp 6) (.tmp 26) rfl hv 32 #[.int .u64 0, .int .i64 0, .int .u64 0, .int .i64 0, .int .i64 0, .int .i64 0, .int .u32 0] cs rfl rfl HV3.out hcs.out.symm (by rw [hcs.out]; exact Tryz.sizeH) hone.out ?_
      intro wf hBf hOf
      have HPw := Lh (HP3.out.only hOf.out hvg.out (fun h0 ad e => by have := HAL.out h0 ad e; have := hvl.out; show ad.block ≠ hv; omega))
      have HRw := Lh (hOf.out.blk HR3.out (fun e => hvr.out.1 e.symm))
      have HNw := Lh (hOf.out.blk HN3.out (fun e => hvr.out.2 e.symm))
      have HKw := Lh (HK3.out.only_new hOf.out hvl.out)
      have HVw := Lh hBf.out
      have HV9 := Lh ((stays_hd w2.heap.size).2 _ _ _ _ _ HV9.out hOf.out hlo.out.1)
      refine hK.out _ _ ⟨HPw.out.blk.cell 0, HPw.out.blk.cell 1⟩ (fun hHf => ?_)
      clear hK K
      try simp only [Act.put, pA9, pZ9, pS9]
      refine tT 16 rfl ?_ ⟨hHf, fun h => absurd h (by decide)⟩ ?_ ?_
      rotate_left
      · (intro wx hx; clear hx; go_simp <;> with_reducible rfl)
      try simp only [Act.put, pA9, pZ9, pS9]
      refine tT 17 rfl ?_ ⟨hHf, fun h => absurd h (by decide)⟩ ?_ ?_
      rotate_left
      · (intro wx hx; clear hx; go_simp <;> with_reducible rfl)
      try simp only [Act.put, pA9, pZ9, pS9]
      refine wpAnyT_done (by kernel_rfl) ?_ _
      clear hH hH3 hHf
      have HF := Lh (HPw.out.put (q := q) HQ.out)
      have HRk := Lh (HF.out.2.notBlk HRw.out hrg.out)
      have HVk := Lh (HF.out.2.notBlk HVw.out hvg.out)
      have d1 := HPw.out.blk.cell 1
      have f1 := HPw.out.blk.frozen 1
      obtain ⟨wk, ewk⟩ : ∃ wk, wf.setCell ⟨g, 1, none⟩ (.int .i64 (q : Int)) = wk := ⟨_, rfl⟩
      have hOk := Lh (show Only g wf wk from by rw [← ewk]; exact Only.set_ wf g 1 _)
      rw [ewk] at HF HRk HVk
      go_wp2_with (first
        | rw [ewk]
        | (refine wpl_load_blk rfl 32 (.tmp 6) rfl hv 32 cs _ rfl HVk.out Tryz.underlying32 rfl (by rw [hcs.out]; exact Tryz.sizeH) ?_)
        | (refine wpl_store_blk rfl 32 (.tmp 4) (.tmp 40) rfl w.heap.size 32 #[.int .u64 0, .int .i64 0, .int .u64 0, .int .i64 0, .int .i64 0, .int .i64 0, .int .u32 0] cs rfl rfl HRk.out hcs.out.symm (by rw [hcs.out]; exact Tryz.sizeH) hone.out ?_; intro w9 hB9 hO9))
      refine bodyPost_ret (v := .agg cs) (res_c Tryz.results28 rfl (load_blk hB9.out Tryz.underlying32 rfl (by rw [hcs.out]; exact Tryz.sizeH))) rfl ?_
      rw [hr]
      refine ⟨(HKw.out.trans HF.out.2).only_new hO9.out (Nat.le_refl _), _, rfl, ?_, HF.out.1.only hO9.out hrg.out (fun h0 ad e => by have := HAL.out h0 ad e; show ad.block ≠ w.heap.size; omega)⟩
      have hll := hlo.out
      have hss := HS.out
      have hgg := HG.out
      have v1 := (stays_hd w2.heap.size).2 _ g _ _ _ HV9.out hOk.out (by omega)
      have v2 := (stays_hd w2.heap.size).2 _ w.heap.size _ _ _ v1 hO9.out (by omega)
      exact lo_hd (lo' := w.heap.size) v2 (by omega)
set_option maxRecDepth 100000 in
set_option maxHeartbeats 4000000 in
theorem wt_conf (g : Nat) (A : Option Addr) (n cap : Nat) (bs : List Nat) (p : Nat) (w : World) (hP : Hid (PW g A n cap bs p w)) :
    Calls Tryz.prog 26 #[.pointer (some ⟨g, 0, none⟩), .func (.func 27) #[] #[]] w (RetT (rConf bs p) (vConf w.heap.size) (.agg #[.slice none 0 0, .slice none 0 0]) g A n cap bs w) := by
  have HG := Lh hP.out.blk.lt
  obtain ⟨w0, ew0⟩ : ∃ w0, w.alloc (.cells #[.slice none 0 0, .slice none 0 0] 27) = w0 := ⟨_, rfl⟩
  obtain ⟨w1, ew1⟩ : ∃ w1, w0.alloc (.cells #[.slice none 0 0, .slice none 0 0] 27) = w1 := ⟨_, rfl⟩
  have hx0 : Blk (w.alloc (.cells #[.slice none 0 0, .slice none 0 0] 27)) w.heap.size 27 #[.slice none 0 0, .slice none 0 0] := Blk.new w _ _
  have hb0 : Below w.heap.size w (w.alloc (.cells #[.slice none 0 0, .slice none 0 0] 27)) := (Below.refl _ _).alloc (Nat.le_refl _) _
  have hs0 : (w.alloc (.cells #[.slice none 0 0, .slice none 0 0] 27)).heap.size = w.heap.size + 1 := by simp
  rw [ew0] at hx0 hb0 hs0
  have hx1 : Blk (w0.alloc (.cells #[.slice none 0 0, .slice none 0 0] 27)) w0.heap.size 27 #[.slice none 0 0, .slice none 0 0] := Blk.new w0 _ _
  have hx0 := hx0.alloc (.cells #[.slice none 0 0, .slice none 0 0] 27)
  have hb1 : Below w0.heap.size w0 (w0.alloc (.cells #[.slice none 0 0, .slice none 0 0] 27)) := (Below.refl _ _).alloc (Nat.le_refl _) _
  have hs1 : (w0.alloc (.cells #[.slice none 0 0, .slice none 0 0] 27)).heap.size = w0.heap.size + 1 := by simp
  rw [ew1] at hx0 hx1 hb1 hs1
  have hp1 := (hP.out.below hb0).below hb1
  have hk1 : Keep (Not g) w w1 := (Keep.below hb0).trans (Keep.below hb1)
  have c2 := hp1.blk.cell 2
  have HP1 := Lh hp1
  have HK1 := Lh hk1
  have HR1 := Lh hx0
  have HN1 := Lh hx1
  have HS := Lh (And.intro hs0 hs1)
  have hrg := Lh (show w.heap.size ≠ g from by have := HG.out; omega)
  have HPL := Lh hP.out.pl
  have HAL := Lh (show 0 < n → ∀ ad, A = some ad → ad.block < w.heap.size from fun h0 ad e => by obtain ⟨ad', e', hb, -⟩ := hP.out.inb.rd.2 h0; rw [e] at e'; obtain rfl := Option.some.inj e'; exact hb)
  have HB := Lh hP.out.inb.byt
  have HLN := Lh hP.out.inb.len
  clear hx0 hx1 hb0 hb1 hs0 hs1 hp1 hk1 hP
  go_enter Tryz.func26, Tryz.ntmps26
  go_upto_region 4 with (first | rw [ew0] | rw [ew1] | fail)
  clear ew0 ew1 c2
  have HPD := Lh HP1.out.drew
  have HRD := Lh HR1.out.drew
  have HND := Lh HN1.out.drew
  have HKD := Lh (HK1.out.trans keep_drew)
  clear HP1 HR1 HN1 HK1
  refine wp_region_late (S0 := fun w' => w'.cell? ⟨g, 0, none⟩ = some (.slice A n cap) ∧ w'.cell? ⟨g, 1, none⟩ = some (.int .i64 (p : Int))) (S := fun _ => True) 15 18 (by kernel_rfl) rfl ⟨⟨HPD.out.blk.cell 0, HPD.out.blk.cell 1⟩, trivial⟩ (fun wd hwd hH => ?_)
  have hsd : wd.heap.size = w1.heap.size := by rw [hwd]; rfl
  rw [← hwd] at HPD HRD HND HKD
  clear hwd
  refine tS 0 rfl ?_ hH ?_ ?_
  rotate_left
  · (intro wx hx; obtain ⟨hx1, hx2⟩ := hx; go_simp <;> with_reducible rfl)
  try simp only [Act.put, pA9, pZ9, pS9]
  refine tS 1 rfl ?_ hH ?_ ?_
  rotate_left
  · (intro wx hx; obtain ⟨hx1, hx2⟩ := hx; go_simp <;> with_reducible rfl)
  try simp only [Act.put, pA9, pZ9, pS9]
  refine tS 5 rfl ?_ hH ?_ ?_
  rotate_left
  · (intro wx hx; obtain ⟨hx1, hx2⟩ := hx; go_simp <;> with_reducible rfl)
  try simp only [Act.put, pA9, pZ9, pS9]
  refine tS 2 rfl ?_ hH ?_ ?_
  rotate_left
  · (intro wx hx; obtain ⟨hx1, hx2⟩ := hx; go_simp <;> with_reducible rfl)
  try simp only [Act.put, pA9, pZ9, pS9]
  refine tS 3 rfl ?_ hH ?_ ?_
  rotate_left
  · (intro wx hx; obtain ⟨hx1, hx2⟩ := hx; go_simp <;> with_reducible rfl)
  try simp only [Act.put, pA9, pZ9, pS9]
  refine tS 4 rfl ?_ hH ?_ ?_
  rotate_left
  · (intro wx hx; obtain ⟨hx1, hx2⟩ := hx; go_simp <;> with_reducible rfl)
  try simp only [Act.put, pA9, pZ9, pS9]
  refine tS 6 rfl ?_ hH ?_ ?_
  rotate_left
  · (intro wx hx; obtain ⟨hx1, hx2⟩ := hx; go_simp <;> with_reducible rfl)
  try simp only [Act.put, pA9, pZ9, pS9]
  refine tS 7 rfl ?_ hH ?_ ?_
  rotate_left
  · (intro wx hx; obtain ⟨hx1, hx2⟩ := hx; go_simp <;> with_reducible rfl)
  try simp only [Act.put, pA9, pZ9, pS9]
  refine tS 8 rfl ?_ hH ?_ ?_
  rotate_left
  · (intro wx hx; obtain ⟨hx1, hx2⟩ := hx; go_simp <;> with_reducible rfl)
  try simp only [Act.put, pA9, pZ9, pS9]
  refine wpAnyT_two 9 14 rfl rfl (by kernel_rfl) (fun K hK => ?_) (fun K hK => ?_)
  · rw [if_pos (by rfl)]
    go_simp
    go_at_call 27
    refine (conf_read A n cap bs p _ (Lh HPD.out.inb) HPL.out).mono ?_
    cases hr : rConf bs p with
    | none =>
      rintro e w3 ⟨hb, rfl⟩
      have HP3 := Lh (HPD.out.below hb)
      have HR3 := Lh (HRD.out.below hb HRD.out.lt)
      have HN3 := Lh (HND.out.below hb HND.out.lt)
      have HK3 := Lh (HKD.out.trans (Keep.below hb))
      have hsz3 : wd.heap.size ≤ w3.heap.size := hb.size
      clear hb
      refine hK.out _ _ ⟨⟨HP3.out.blk.cell 0, HP3.out.blk.cell 1⟩, trivial⟩ (fun hH3 => ?_)
      clear hK K
      try simp only [Act.put, pA9, pZ9, pS9]
      refine tS 10 rfl ?_ hH3 ?_ ?_
      rotate_left
      · (intro wx hx; clear hx; go_simp <;> with_reducible rfl)
      try simp only [Act.put, pA9, pZ9, pS9]
      refine tS 11 rfl ?_ hH3 ?_ ?_
      rotate_left
      · (intro wx hx; clear hx; go_simp <;> with_reducible rfl)
      try simp only [Act.put, pA9, pZ9, pS9]
      refine tS 12 rfl ?_ hH3 ?_ ?_
      rotate_left
      · (intro wx hx; clear hx; go_simp <;> with_reducible rfl)
      try simp only [Act.put, pA9, pZ9, pS9]
      refine tS 13 rfl ?_ hH3 ?_ ?_
      rotate_left
      · (intro wx hx; clear hx; go_simp <;> with_reducible rfl)
      try simp only [Act.put, pA9, pZ9, pS9]
      refine wpAnyT_one 14 rfl (by kernel_rfl) (fun K hK => ?_)
      rw [if_pos (by rfl)]
      go_simp
      obtain ⟨w4, ew4⟩ : ∃ w4, w3.alloc (.cells #[.slice none 0 0, .slice none 0 0] 27) = w4 := ⟨_, rfl⟩
      have hx4 : Blk (w3.alloc (.cells #[.slice none 0 0, .slice none 0 0] 27)) w3.heap.size 27 #[.slice none 0 0, .slice none 0 0] := Blk.new w3 _ _
      have hb4 : Below w3.heap.size w3 (w3.alloc (.cells #[.slice none 0 0, .slice none 0 0] 27)) := (Below.refl _ _).alloc (Nat.le_refl _) _
      rw [ew4] at hx4 hb4
      rw [ew4]
      obtain ⟨hv, ehv⟩ : ∃ hv, w3.heap.size = hv := ⟨_, rfl⟩
      have HP4 := Lh (HP3.out.below hb4)
      have HR4 := Lh (HR3.out.below hb4 HR3.out.lt)
      have HN4 := Lh (HN3.out.below hb4 HN3.out.lt)
      have HK4 := Lh (HK3.out.trans (Keep.below hb4))
      rw [ehv] at hx4
      have HV4 := Lh hx4
      have hvg := Lh (show hv ≠ g from by have := HG.out; have := HS.out; omega)
      have hvr := Lh (show hv ≠ w.heap.size ∧ hv ≠ w0.heap.size from by have := HS.out; omega)
      have hvl := Lh (show w.heap.size ≤ hv from by have := HS.out; omega)
      have hlo := Lh (show w.heap.size < wd.heap.size from by have := HS.out; omega)
      clear hx4 ew4
      try rw [ehv]
      refine hK.out _ _ ⟨⟨HP4.out.blk.cell 0, HP4.out.blk.cell 1⟩, trivial⟩ (fun hH4 => ?_)
      clear hK K
      try simp only [Act.put, pA9, pZ9, pS9]
      refine wpAnyT_last 15 rfl (by kernel_rfl) (by decide) (fun K hK => ?_)
      refine step_store_blk rfl 27 (.tmp 6) (.tmp 26) rfl hv 27 #[.slice none 0 0, .slice none 0 0] #[.slice none 0 0, .slice none 0 0] rfl rfl HV4.out rfl Tryz.sizeF rfl ?_
      intro wf hBf hOf
      have HPw := Lh (HP4.out.only hOf.out hvg.out (fun h0 ad e => by have := HAL.out h0 ad e; have := hvl.out; show ad.block ≠ hv; omega))
      have HRw := Lh (hOf.out.blk HR4.out (fun e => hvr.out.1 e.symm))
      have HNw := Lh (hOf.out.blk HN4.out (fun e => hvr.out.2 e.symm))
      have HKw := Lh (HK4.out.only_new hOf.out hvl.out)
      have HVw := Lh hBf.out
      clear hb4 ehv
      refine hK.out _ _ ⟨HPw.out.blk.cell 0, HPw.out.blk.cell 1⟩ (fun hHf => ?_)
      clear hK K
      try simp only [Act.put, pA9, pZ9, pS9]
      refine tT 16 rfl ?_ ⟨hHf, fun h => absurd h (by decide)⟩ ?_ ?_
      rotate_left
      · (intro wx hx; clear hx; go_simp <;> with_reducible rfl)
      try simp only [Act.put, pA9, pZ9, pS9]
      refine tT 17 rfl ?_ ⟨hHf, fun h => absurd h (by decide)⟩ ?_ ?_
      rotate_left
      · (intro wx hx; clear hx; go_simp <;> with_reducible rfl)
      try simp only [Act.put, pA9, pZ9, pS9]
      refine wpAnyT_done (by kernel_rfl) ?_ _
      clear hH hH3 hHf
      have HF := Lh HPw.out.fail
      have HRk := Lh (HF.out.2.notBlk HRw.out hrg.out)
      have hng := Lh (show w0.heap.size ≠ g from by have := HG.out; have := HS.out; omega)
      have HNk := Lh (HF.out.2.notBlk HNw.out hng.out)
      have d2 := HPw.out.blk.cell 2
      have f2 := HPw.out.blk.frozen 2
      obtain ⟨wk, ewk⟩ : ∃ wk, wf.setCell ⟨g, 2, none⟩ (.iface 94 (.int .i64 50)) = wk := ⟨_, rfl⟩
      rw [ewk] at HF HRk HNk
      go_wp2_with (first
        | rw [ewk]
        | (refine wpl_load_blk rfl 27 (.tmp 5) rfl w0.heap.size 27 #[.slice none 0 0, .slice none 0 0] _ rfl HNk.out Tryz.underlying27 rfl Tryz.sizeF ?_)
        | (refine wpl_store_blk rfl 27 (.tmp 4) (.tmp 35) rfl w.heap.size 27 #[.slice none 0 0, .slice none 0 0] #[.slice none 0 0, .slice none 0 0] rfl rfl HRk.out rfl Tryz.sizeF rfl ?_; intro w9 hB9 hO9))
      refine bodyPost_ret (v := .agg #[.slice none 0 0, .slice none 0 0]) (res_c Tryz.results26 rfl (load_blk hB9.out Tryz.underlying27 rfl Tryz.sizeF)) rfl ?_
      rw [hr]
      refine ⟨(HKw.out.trans HF.out.2).only_new hO9.out (Nat.le_refl _), rfl, HF.out.1.only hO9.out hrg.out (fun h0 ad e => by have := HAL.out h0 ad e; show ad.block ≠ w.heap.size; omega)⟩
    | some y =>
      obtain ⟨y, q⟩ := y
      rintro e w3 ⟨hb, v, rfl, hv9⟩
      have HQ := Lh (show q ≤ n from by have := ((wr_conf HB.out).1 p y q hr (by rw [HLN.out]; exact HPL.out)).2.1; rw [HLN.out] at this; exact this)
      obtain ⟨cs, rfl, hcs, hone⟩ := agg_conf hv9
      have hcs := Lh hcs
      have hone := Lh hone
      have HV9 := Lh hv9
      clear hv9
      have HP3 := Lh (HPD.out.below hb)
      have HR3 := Lh (HRD.out.below hb HRD.out.lt)
      have HN3 := Lh (HND.out.below hb HND.out.lt)
      have HK3 := Lh (HKD.out.trans (Keep.below hb))
      have hsz3 : wd.heap.size ≤ w3.heap.size := hb.size
      clear hb
      refine hK.out _ _ ⟨⟨HP3.out.blk.cell 0, HP3.out.blk.cell 1⟩, trivial⟩ (fun hH3 => ?_)
      clear hK K
      try simp only [Act.put, pA9, pZ9, pS9]
      refine tS 10 rfl ?_ hH3 ?_ ?_
      rotate_left
      · (intro wx hx; clear hx; go_simp <;> with_reducible rfl)
      try simp only [Act.put, pA9, pZ9, pS9]
      refine tS 11 rfl ?_ hH3 ?_ ?_
      rotate_left
      · (intro wx hx; clear hx; go_simp <;> with_reducible rfl)
      try simp only [Act.put, pA9, pZ9, pS9]
      refine tS 12 rfl ?_ hH3 ?_ ?_
      rotate_left
      · (intro wx hx; clear hx; go_simp <;> with_reducible rfl)
      try simp only [Act.put, pA9, pZ9, pS9]
      refine tS 13 rfl ?_ hH3 ?_ ?_
      rotate_left
      · (intro wx hx; clear hx; go_simp <;> with_reducible rfl)
      try simp only [Act.put, pA9, pZ9, pS9]
      refine wpAnyT_one 14 rfl (by kernel_rfl) (fun K hK => ?_)
      rw [if_pos (by rfl)]
      go_simp
      obtain ⟨w4, ew4⟩ : ∃ w4, w3.alloc (.cells #[.slice none 0 0, .slice none 0 0] 27) = w4 := ⟨_, rfl⟩
      have hx4 : Blk (w3.alloc (.cells #[.slice none 0 0, .slice none 0 0] 27)) w3.heap.size 27 #[.slice none 0 0, .slice none 0 0] := Blk.new w3 _ _
      have hb4 : Below w3.heap.size w3 (w3.alloc (.cells #[.slice none 0 0, .slice none 0 0] 27)) := (Below.refl _ _).alloc (Nat.le_refl _) _
      rw [ew4] at hx4 hb4
      rw [ew4]
      obtain ⟨hv, ehv⟩ : ∃ hv, w3.heap.size = hv := ⟨_, rfl⟩
      have HP4 := Lh (HP3.out.below hb4)
      have HR4 := Lh (HR3.out.below hb4 HR3.out.lt)
      have HN4 := Lh (HN3.out.below hb4 HN3.out.lt)
      have HK4 := Lh (HK3.out.trans (Keep.below hb4))
      rw [ehv] at hx4
      have HV4 := Lh hx4
      have hvg := Lh (show hv ≠ g from by have := HG.out; have := HS.out; omega)
      have hvr := Lh (show hv ≠ w.heap.size ∧ hv ≠ w0.heap.size from by have := HS.out; omega)
      have hvl := Lh (show w.heap.size ≤ hv from by have := HS.out; omega)
      have hlo := Lh (show w.heap.size < wd.heap.size from by have := HS.out; omega)
      clear hx4 ew4
      try rw [ehv]
      refine hK.out _ _ ⟨⟨HP4.out.blk.cell 0, HP4.out.blk.cell 1⟩, trivial⟩ (fun hH4 => ?_)
      clear hK K
      try simp only [Act.put, pA9, pZ9, pS9]
      refine wpAnyT_last 15 rfl (by kernel_rfl) (by decide) (fun K hK => ?_)
      refine step_store_blk rfl 27 (.tmp 6) (.tmp 26) rfl hv 27 #[.slice none 0 0, .slice none 0 0] cs rfl rfl HV4.out hcs.out.symm (by rw [hcs.out]; exact Tryz.sizeF) hone.out ?_
      intro wf hBf hOf
      have HPw := Lh (HP4.out.only hOf.out hvg.out (fun h0 ad e => by have := HAL.out h0 ad e; have := hvl.out; show ad.block ≠ hv; omega))
      have HRw := Lh (hOf.out.blk HR4.out (fun e => hvr.out.1 e.symm))
      have HNw := Lh (hOf.out.blk HN4.out (fun e => hvr.out.2 e.symm))
      have HKw := Lh (HK4.out.only_new hOf.out hvl.out)
      have HVw := Lh hBf.out
      have HV9 := Lh ((stays_conf wd.heap.size).1 _ _ _ _ HV9.out (hb4.trans (hOf.out.below (by omega))))
      clear hb4 ehv
      refine hK.out _ _ ⟨HPw.out.blk.cell 0, HPw.out.blk.cell 1⟩ (fun hHf => ?_)
      clear hK K
      try simp only [Act.put, pA9, pZ9, pS9]
      refine tT 16 rfl ?_ ⟨hHf, fun h => absurd h (by decide)⟩ ?_ ?_
      rotate_left
      · (intro wx hx; clear hx; go_simp <;> with_reducible rfl)
      try simp only [Act.put, pA9, pZ9, pS9]
      refine tT 17 rfl ?_ ⟨hHf, fun h => absurd h (by decide)⟩ ?_ ?_
      rotate_left
      · (intro wx hx; clear hx; go_simp <;> with_reducible rfl)
      try simp only [Act.put, pA9, pZ9, pS9]
      refine wpAnyT_done (by kernel_rfl) ?_ _
      clear hH hH3 hHf
      have HF := Lh (HPw.out.put (q := q) HQ.out)
      have HRk := Lh (HF.out.2.notBlk HRw.out hrg.out)
      have HVk := Lh (HF.out.2.notBlk HVw.out hvg.out)
      have d1 := HPw.out.blk.cell 1
      have f1 := HPw.out.blk.frozen 1
      obtain ⟨wk, ewk⟩ : ∃ wk, wf.setCell ⟨g, 1, none⟩ (.int .i64 (q : Int)) = wk := ⟨_, rfl⟩
      have hOk := Lh (show Only g wf wk from by rw [← ewk]; exact Only.set_ wf g 1 _)
      rw [ewk] at HF HRk HVk
      go_wp2_with (first
        | rw [ewk]
        | (refine wpl_load_blk rfl 27 (.tmp 6) rfl hv 27 cs _ rfl HVk.out Tryz.underlying27 rfl (by rw [hcs.out]; exact Tryz.sizeF) ?_)
        | (refine wpl_store_blk rfl 27 (.tmp 4) (.tmp 40) rfl w.heap.size 27 #[.slice none 0 0, .slice none 0 0] cs rfl rfl HRk.out hcs.out.symm (by rw [hcs.out]; exact Tryz.sizeF) hone.out ?_; intro w9 hB9 hO9))
      refine bodyPost_ret (v := .agg cs) (res_c Tryz.results26 rfl (load_blk hB9.out Tryz.underlying27 rfl (by rw [hcs.out]; exact Tryz.sizeF))) rfl ?_
      rw [hr]
      refine ⟨(HKw.out.trans HF.out.2).only_new hO9.out (Nat.le_refl _), _, rfl, ?_, HF.out.1.only hO9.out hrg.out (fun h0 ad e => by have := HAL.out h0 ad e; show ad.block ≠ w.heap.size; omega)⟩
      have hll := hlo.out
      have hss := HS.out
      have hgg := HG.out
      have v1 := (stays_conf wd.heap.size).2 _ g _ _ _ HV9.out hOk.out (by omega)
      have v2 := (stays_conf wd.heap.size).2 _ w.heap.size _ _ _ v1 hO9.out (by omega)
      exact lo_conf (lo' := w.heap.size) v2 (by omega)
  · rw [if_pos (by rfl)]
    go_simp
    obtain ⟨w2, ew2⟩ : ∃ w2, wd.alloc (.cells #[.slice none 0 0, .slice none 0 0] 27) = w2 := ⟨_, rfl⟩
    have hx2 : Blk (wd.alloc (.cells #[.slice none 0 0, .slice none 0 0] 27)) wd.heap.size 27 #[.slice none 0 0, .slice none 0 0] := Blk.new wd _ _
    have hb2 : Below wd.heap.size wd (wd.alloc (.cells #[.slice none 0 0, .slice none 0 0] 27)) := (Below.refl _ _).alloc (Nat.le_refl _) _
    have hs2 : (wd.alloc (.cells #[.slice none 0 0, .slice none 0 0] 27)).heap.size = wd.heap.size + 1 := by simp
    rw [ew2] at hx2 hb2 hs2
    rw [ew2]
    rw [hsd] at hx2 hs2
    obtain ⟨hv, ehv⟩ : ∃ hv, w1.heap.size = hv := ⟨_, rfl⟩
    rw [ehv] at hx2 hs2
    have HPA := Lh (HPD.out.below hb2)
    have HRA := Lh (HRD.out.below hb2 HRD.out.lt)
    have HNA := Lh (HND.out.below hb2 HND.out.lt)
    have HKA := Lh (HKD.out.trans (Keep.below hb2))
    have HVA := Lh hx2
    have hvg := Lh (show hv ≠ g from by have := HG.out; have := HS.out; omega)
    have hvr := Lh (show hv ≠ w.heap.size ∧ hv ≠ w0.heap.size from by have := HS.out; omega)
    have hvl := Lh (show w.heap.size ≤ hv from by have := HS.out; omega)
    have hlo := Lh (show hv < w2.heap.size ∧ w.heap.size < w2.heap.size from by have := HS.out; omega)
    clear hx2 hb2 hs2 ew2
    try rw [ehv]
    clear ehv
    refine hK.out _ _ ⟨⟨HPA.out.blk.cell 0, HPA.out.blk.cell 1⟩, trivial⟩ (fun hHa => ?_)
    clear hK K
    try simp only [Act.put, pA9, pZ9, pS9]
    refine wpAnyT_one 9 rfl (by kernel_rfl) (fun K hK => ?_)
    rw [if_pos (by rfl)]
    go_simp
    go_at_call 27
    refine (conf_read A n cap bs p _ (Lh HPA.out.inb) HPL.out).mono ?_
    cases hr : rConf bs p with
    | none =>
      rintro e w3 ⟨hb, rfl⟩
      have HP3 := Lh (HPA.out.below hb)
      have HR3 := Lh (HRA.out.below hb HRA.out.lt)
      have HN3 := Lh (HNA.out.below hb HNA.out.lt)
      have HK3 := Lh (HKA.out.trans (Keep.below hb))
      have hsz3 : w2.heap.size ≤ w3.heap.size := hb.size
      have HV3 := Lh (HVA.out.below hb HVA.out.lt)
      clear hb
      refine hK.out _ _ ⟨⟨HP3.out.blk.cell 0, HP3.out.blk.cell 1⟩, trivial⟩ (fun hH3 => ?_)
      clear hK K
      try simp only [Act.put, pA9, pZ9, pS9]
      refine tS 10 rfl ?_ hH3 ?_ ?_
      rotate_left
      · (intro wx hx; clear hx; go_simp <;> with_reducible rfl)
      try simp only [Act.put, pA9, pZ9, pS9]
      refine tS 11 rfl ?_ hH3 ?_ ?_
      rotate_left
      · (intro wx hx; clear hx; go_simp <;> with_reducible rfl)
      try simp only [Act.put, pA9, pZ9, pS9]
      refine tS 12 rfl ?_ hH3 ?_ ?_
      rotate_left
      · (intro wx hx; clear hx; go_simp <;> with_reducible rfl)
      try simp only [Act.put, pA9, pZ9, pS9]
      refine tS 13 rfl ?_ hH3 ?_ ?_
      rotate_left
      · (intro wx hx; clear hx; go_simp <;> with_reducible rfl)
      try simp only [Act.put, pA9, pZ9, pS9]
      refine wpAnyT_last 15 rfl (by kernel_rfl) (by decide) (fun K hK => ?_)
      refine step_store_blk rfl 27 (.tmp 6) (.tmp 26) rfl hv 27 #[.slice none 0 0, .slice none 0 0] #[.slice none 0 0, .slice none 0 0] rfl rfl HV3.out rfl Tryz.sizeF rfl ?_
      intro wf hBf hOf
      have HPw := Lh (HP3.out.only hOf.out hvg.out (fun h0 ad e => by have := HAL.out h0 ad e; have := hvl.out; show ad.block ≠ hv; omega))
      have HRw := Lh (hOf.out.blk HR3.out (fun e => hvr.out.1 e.symm))
      have HNw := Lh (hOf.out.blk HN3.out (fun e => hvr.out.2 e.symm))
      have HKw := Lh (HK3.out.only_new hOf.out hvl.out)
      have HVw := Lh hBf.out
      refine hK.out _ _ ⟨HPw.out.blk.cell 0, HPw.out.blk.cell 1⟩ (fun hHf => ?_)
      clear hK K
      try simp only [Act.put, pA9, pZ9, pS9]
      refine tT 16 rfl ?_ ⟨hHf, fun h => absurd h (by decide)⟩ ?_ ?_
      rotate_left
      · (intro wx hx; clear hx; go_simp <;> with_reducible rfl)
      try simp only [Act.put, pA9, pZ9, pS9]
      refine tT 17 rfl ?_ ⟨hHf, fun h => absurd h (by decide)⟩ ?_ ?_
      rotate_left
      · (intro wx hx; clear hx; go_simp <;> with_reducible rfl)
      try simp only [Act.put, pA9, pZ9, pS9]
      refine wpAnyT_done (by kernel_rfl) ?_ _
      clear hH hH3 hHf
      have HF := Lh HPw.out.fail
      have HRk := Lh (HF.out.2.notBlk HRw.out hrg.out)
      have hng := Lh (show w0.heap.size ≠ g from by have := HG.out; have := HS.out; omega)
      have HNk := Lh (HF.out.2.notBlk HNw.out hng.out)
      have d2 := HPw.out.blk.cell 2
      have f2 := HPw.out.blk.frozen 2
      obtain ⟨wk, ewk⟩ : ∃ wk, wf.setCell ⟨g, 2, none⟩ (.iface 94 (.int .i64 50)) = wk := ⟨_, rfl⟩
      rw [ewk] at HF HRk HNk
      go_wp2_with (first
        | rw [ewk]
        | (refine wpl_load_blk rfl 27 (.tmp 5) rfl w0.heap.size 27 #[.slice none 0 0, .slice none 0 0] _ rfl HNk.out Tryz.underlying27 rfl Tryz.sizeF ?_)
        | (refine wpl_store_blk rfl 27 (.tmp 4) (.tmp 35) rfl w.heap.size 27 #[.slice none 0 0, .slice none 0 0] #[.slice none 0 0, .slice none 0 0] rfl rfl HRk.out rfl Tryz.sizeF rfl ?_; intro w9 hB9 hO9))
      refine bodyPost_ret (v := .agg #[.slice none 0 0, .slice none 0 0]) (res_c Tryz.results26 rfl (load_blk hB9.out Tryz.underlying27 rfl Tryz.sizeF)) rfl ?_
      rw [hr]
      refine ⟨(HKw.out.trans HF.out.2).only_new hO9.out (Nat.le_refl _), rfl, HF.out.1.only hO9.out hrg.out (fun h0 ad e => by have := HAL.out h0 ad e; show ad.block ≠ w.heap.size; omega)⟩
    | some y =>
      obtain ⟨y, q⟩ := y
      rintro e w3 ⟨hb, v, rfl, hv9⟩
      have HQ := Lh (show q ≤ n from by have := ((wr_conf HB.out).1 p y q hr (by rw [HLN.out]; exact HPL.out)).2.1; rw [HLN.out] at this; exact this)
      obtain ⟨cs, rfl, hcs, hone⟩ := agg_conf hv9
      have hcs := Lh hcs
      have hone := Lh hone
      have HV9 := Lh hv9
      clear hv9
      have HP3 := Lh (HPA.out.below hb)
      have HR3 := Lh (HRA.out.below hb HRA.out.lt)
      have HN3 := Lh (HNA.out.below hb HNA.out.lt)
      have HK3 := Lh (HKA.out.trans (Keep.below hb))
      have hsz3 : w2.heap.size ≤ w3.heap.size := hb.size
      have HV3 := Lh (HVA.out.below hb HVA.out.lt)
      clear hb
      refine hK.out _ _ ⟨⟨HP3.out.blk.cell 0, HP3.out.blk.cell 1⟩, trivial⟩ (fun hH3 => ?_)
      clear hK K
      try simp only [Act.put, pA9, pZ9, pS9]
      refine tS 10 rfl ?_ hH3 ?_ ?_
      rotate_left
      · (intro wx hx; clear hx; go_simp <;> with_reducible rfl)
      try simp only [Act.put, pA9, pZ9, pS9]
      refine tS 11 rfl ?_ hH3 ?_ ?_
      rotate_left
      · (intro wx hx; clear hx; go_simp <;> with_reducible rfl)
      try simp only [Act.put, pA9, pZ9, pS9]
      refine tS 12 rfl ?_ hH3 ?_ ?_
      rotate_left
      · (intro wx hx; clear hx; go_simp <;> with_reducible rfl)
      try simp only [Act.put, pA9, pZ9, pS9]
      refine tS 13 rfl ?_ hH3 ?_ ?_
      rotate_left
      · (intro wx hx; clear hx; go_simp <;> with_reducible rfl)
      try simp only [Act.put, pA9, pZ9, pS9]
      refine wpAnyT_last 15 rfl (by kernel_rfl) (by decide) (fun K hK => ?_)
      refine step_store_blk rfl 27 (.tmp 6) (.tmp 26) rfl hv 27 #[.slice none 0 0, .slice none 0 0] cs rfl rfl HV3.out hcs.out.symm (by rw [hcs.out]; exact Tryz.sizeF) hone.out ?_
      intro wf hBf hOf
      have HPw := Lh (HP3.out.only hOf.out hvg.out (fun h0 ad e => by have := HAL.out h0 ad e; have := hvl.out; show ad.block ≠ hv; omega))
      have HRw := Lh (hOf.out.blk HR3.out (fun e => hvr.out.1 e.symm))
      have HNw := Lh (hOf.out.blk HN3.out (fun e => hvr.out.2 e.symm))
      have HKw := Lh (HK3.out.only_new hOf.out hvl.out)
      have HVw := Lh hBf.out
      have HV9 := Lh ((stays_conf w2.heap.size).2 _ _ _ _ _ HV9.out hOf.out hlo.out.1)
      refine hK.out _ _ ⟨HPw.out.blk.cell 0, HPw.out.blk.cell 1⟩ (fun hHf => ?_)
      clear hK K
      try simp only [Act.put, pA9, pZ9, pS9]
      refine tT 16 rfl ?_ ⟨hHf, fun h => absurd h (by decide)⟩ ?_ ?_
      rotate_left
      · (intro wx hx; clear hx; go_simp <;> with_reducible rfl)
      try simp only [Act.put, pA9, pZ9, pS9]
      refine tT 17 rfl ?_ ⟨hHf, fun h => absurd h (by decide)⟩ ?_ ?_
      rotate_left
      · (intro wx hx; clear hx; go_simp <;> with_reducible rfl)
      try simp only [Act.put, pA9, pZ9, pS9]
      refine wpAnyT_done (by kernel_rfl) ?_ _
      clear hH hH3 hHf
      have HF := Lh (HPw.out.put (q := q) HQ.out)
      have HRk := Lh (HF.out.2.notBlk HRw.out hrg.out)
      have HVk := Lh (HF.out.2.notBlk HVw.out hvg.out)
      have d1 := HPw.out.blk.cell 1
      have f1 := HPw.out.blk.frozen 1
      obtain ⟨wk, ewk⟩ : ∃ wk, wf.setCell ⟨g, 1, none⟩ (.int .i64 (q : Int)) = wk := ⟨_, rfl⟩
      have hOk := Lh (show Only g wf wk from by rw [← ewk]; exact Only.set_ wf g 1 _)
      rw [ewk] at HF HRk HVk
      go_wp2_with (first
        | rw [ewk]
        | (refine wpl_load_blk rfl 27 (.tmp 6) rfl hv 27 cs _ rfl HVk.out Tryz.underlying27 rfl (by rw [hcs.out]; exact Tryz.sizeF) ?_)
        | (refine wpl_store_blk rfl 27 (.tmp 4) (.tmp 40) rfl w.heap.size 27 #[.slice none 0 0, .slice none 0 0] cs rfl rfl HRk.out hcs.out.symm (by rw [hcs.out]; exact Tryz.sizeF) hone.out ?_; intro w9 hB9 hO9))
      refine bodyPost_ret (v := .agg cs) (res_c Tryz.results26 rfl (load_blk hB9.out Tryz.underlying27 rfl (by rw [hcs.out]; exact Tryz.sizeF))) rfl ?_
      rw [hr]
      refine ⟨(HKw.out.trans HF.out.2).only_new hO9.out (Nat.le_refl _), _, rfl, ?_, HF.out.1.only hO9.out hrg.out (fun h0 ad e => by have := HAL.out h0 ad e; show ad.block ≠ w.heap.size; omega)⟩
      have hll := hlo.out
      have hss := HS.out
      have hgg := HG.out
      have v1 := (stays_conf w2.heap.size).2 _ g _ _ _ HV9.out hOk.out (by omega)
      have v2 := (stays_conf w2.heap.size).2 _ w.heap.size _ _ _ v1 hO9.out (by omega)
      exact lo_conf (lo' := w.heap.size) v2 (by omega)
set_option maxRecDepth 100000 in
set_option maxHeartbeats 4000000 in
theorem wt_ent (g : Nat) (A : Option Addr) (n cap : Nat) (bs : List Nat) (p : Nat) (w : World) (hP : Hid (PW g A n cap bs p w)) :
    Calls Tryz.prog 24 #[.pointer (some ⟨g, 0, none⟩), .func (.func 25) #[] #[]] w (RetT (rEnt bs p) (vEnt w.heap.size) (.agg #[.int .u64 0, .int .u64 0, .int .i64 0, .int .i64 0, .int .u64 0, .int .u64 0, .string ⟨#[]⟩, .int .i64 0, .int .u32 0, .int .u64 0, .int .u64 0, .int .i64 0, .int .i64 0, .bool false, .int .u64 0, .int .i64 0, .int .u64 0, .int .u64 0, .slice none 0 0, .slice none 0 0, .slice none 0 0]) g A n cap bs w) := by
  have HG := Lh hP.out.blk.lt
  obtain ⟨w0, ew0⟩ : ∃ w0, w.alloc (.cells #[.int .u64 0, .int .u64 0, .int .i64 0, .int .i64 0, .int .u64 0, .int .u64 0, .string ⟨#[]⟩, .int .i64 0, .int .u32 0, .int .u64 0, .int .u64 0, .int .i64 0, .int .i64 0, .bool false, .int .u64 0, .int .i64 0, .int .u64 0, .int .u64 0, .slice none 0 0, .slice none 0 0, .slice none 0 0] 86) = w0 := ⟨_, rfl⟩
  obtain ⟨w1, ew1⟩ : ∃ w1, w0.alloc (.cells #[.int .u64 0, .int .u64 0, .int .i64 0, .int .i64 0, .int .u64 0, .int .u64 0, .string ⟨#[]⟩, .int .i64 0, .int .u32 0, .int .u64 0, .int .u64 0, .int .i64 0, .int .i64 0, .bool false, .int .u64 0, .int .i64 0, .int .u64 0, .int .u64 0, .slice none 0 0, .slice none 0 0, .slice none 0 0] 86) = w1 := ⟨_, rfl⟩
  have hx0 : Blk (w.alloc (.cells #[.int .u64 0, .int .u64 0, .int .i64 0, .int .i64 0, .int .u64 0, .int .u64 0, .string ⟨#[]⟩, .int .i64 0, .int .u32 0, .int .u64 0, .int .u64 0, .int .i64 0, .int .i64 0, .bool false, .int .u64 0, .int .i64 0, .int .u64 0, .int .u64 0, .slice none 0 0, .slice none 0 0, .slice none 0 0] 86)) w.heap.size 86 #[.int .u64 0, .int .u64 0, .int .i64 0, .int .i64 0, .int .u64 0, .int .u64 0, .string ⟨#[]⟩, .int .i64 0, .int .u32 0, .int .u64 0, .int .u64 0, .int .i64 0, .int .i64 0, .bool false, .int .u64 0, .int .i64 0, .int .u64 0, .int .u64 0, .slice none 0 0, .slice none 0 0, .slice none 0 0] := Blk.new w _ _
  have hb0 : Below w.heap.size w (w.alloc (.cells #[.int .u64 0, .int .u64 0, .int .i64 0, .int .i64 0, .int .u64 0, .int .u64 0, .string ⟨#[]⟩, .int .i64 0, .int .u32 0, .int .u64 0, .int .u64 0, .int .i64 0, .int .i64 0, .bool false, .int .u64 0, .int .i64 0, .int .u64 0, .int .u64 0, .slice none 0 0, .slice none 0 0, .slice none 0 0] 86)) := (Below.refl _ _).alloc (Nat.le_refl _) _
  have hs0 : (w.alloc (.cells #[.int .u64 0, .int .u64 0, .int .i64 0, .int .i64 0, .int .u64 0, .int .u64 0, .string ⟨#[]⟩, .int .i64 0, .int .u32 0, .int .u64 0, .int .u64 0, .int .i64 0, .int .i64 0, .bool false, .int .u64 0, .int .i64 0, .int .u64 0, .int .u64 0, .slice none 0 0, .slice none 0 0, .slice none 0 0] 86)).heap.size = w.heap.size + 1 := by simp
  rw [ew0] at hx0 hb0 hs0
  have hx1 : Blk (w0.alloc (.cells #[.int .u64 0, .int .u64 0, .int .i64 0, .int .i64 0, .int .u64 0, .int .u64 0, .string ⟨#[]⟩, .int .i64 0, .int .u32 0, .int .u64 0, .int .u64 0, .int .i64 0, .int .i64 0, .bool false, .int .u64 0, .int .i64 0, .int .u64 0, .int .u64 0, .slice none 0 0, .slice none 0 0, .slice none 0 0] 86)) w0.heap.size 86 #[.int .u64 0, .int .u64 0, .int .i64 0, .int .i64 0, .int .u64 0, .int .u64 0, .string ⟨#[]⟩, .int .i64 0, .int .u32 0, .int .u64 0, .int .u64 0, .int .i64 0, .int .i64 0, .bool false, .int .u64 0, .int .i64 0, .int .u64 0, .int .u64 0, .slice none 0 0, .slice none 0 0, .slice none 0 0] := Blk.new w0 _ _
  have hx0 := hx0.alloc (.cells #[.int .u64 0, .int .u64 0, .int .i64 0, .int .i64 0, .int .u64 0, .int .u64 0, .string ⟨#[]⟩, .int .i64 0, .int .u32 0, .int .u64 0, .int .u64 0, .int .i64 0, .int .i64 0, .bool false, .int .u64 0, .int .i64 0, .int .u64 0, .int .u64 0, .slice none 0 0, .slice none 0 0, .slice none 0 0] 86)
  have hb1 : Below w0.heap.size w0 (w0.alloc (.cells #[.int .u64 0, .int .u64 0, .int .i64 0, .int .i64 0, .int .u64 0, .int .u64 0, .string ⟨#[]⟩, .int .i64 0, .int .u32 0, .int .u64 0, .int .u64 0, .int .i64 0, .int .i64 0, .bool false, .int .u64 0, .int .i64 0, .int .u64 0, .int .u64 0, .slice none 0 0, .slice none 0 0, .slice none 0 0] 86)) := (Below.refl _ _).alloc (Nat.le_refl _) _
  have hs1 : (w0.alloc (.cells #[.int .u64 0, .int .u64 0, .int .i64 0, .int .i64 0, .int .u64 0, .int .u64 0, .string ⟨#[]⟩, .int .i64 0, .int .u32 0, .int .u64 0, .int .u64 0, .int .i64 0, .int .i64 0, .bool false, .int .u64 0, .int .i64 0, .int .u64 0, .int .u64 0, .slice none 0 0, .slice none 0 0, .slice none 0 0] 86)).heap.size = w0.heap.size + 1 := by simp
  rw [ew1] at hx0 hx1 hb1 hs1
  have hp1 := (hP.out.below hb0).below hb1
  have hk1 : Keep (Not g) w w1 := (Keep.below hb0).trans (Keep.below hb1)
  have c2 := hp1.blk.cell 2
  have HP1 := Lh hp1
  have HK1 := Lh hk1
  have HR1 := Lh hx0
  have HN1 := Lh hx1
  have HS := Lh (And.intro hs0 hs1)
  have hrg := Lh (show w.heap.size ≠ g from by have := HG.out; omega)
  have HPL := Lh hP.out.pl
  have HAL := Lh (show 0 < n → ∀ ad, A = some ad → ad.block < w.heap.size from fun h0 ad e => by obtain ⟨ad', e', hb, -⟩ := hP.out.inb.rd.2 h0; rw [e] at e'; obtain rfl := Option.some.inj e'; exact hb)
  have HB := Lh hP.out.inb.byt
  have HLN := Lh hP.out.inb.len
  clear hx0 hx1 hb0 hb1 hs0 hs1 hp1 hk1 hP
  go_enter Tryz.func24, Tryz.ntmps24
  go_upto_region 4 with (first | rw [ew0] | rw [ew1] | fail)
  clear ew0 ew1 c2
  have HPD := Lh HP1.out.drew
  have HRD := Lh HR1.out.drew
  have HND := Lh HN1.out.drew
  have HKD := Lh (HK1.out.trans keep_drew)
  clear HP1 HR1 HN1 HK1
  refine wp_region_late (S0 := fun w' => w'.cell? ⟨g, 0, none⟩ = some (.slice A n cap) ∧ w'.cell? ⟨g, 1, none⟩ = some (.int .i64 (p : Int))) (S := fun _ => True) 15 18 (by kernel_rfl) rfl ⟨⟨HPD.out.blk.cell 0, HPD.out.blk.cell 1⟩, trivial⟩ (fun wd hwd hH => ?_)
  have hsd : wd.heap.size = w1.heap.size := by rw [hwd]; rfl
  rw [← hwd] at HPD HRD HND HKD
  clear hwd
  refine tS 0 rfl ?_ hH ?_ ?_
  rotate_left
  · (intro wx hx; obtain ⟨hx1, hx2⟩ := hx; go_simp <;> with_reducible rfl)
  try simp only [Act.put, pA9, pZ9, pS9]
  refine tS 1 rfl ?_ hH ?_ ?_
  rotate_left
  · (intro wx hx; obtain ⟨hx1, hx2⟩ := hx; go_simp <;> with_reducible rfl)
  try simp only [Act.put, pA9, pZ9, pS9]
  refine tS 5 rfl ?_ hH ?_ ?_
  rotate_left
  · (intro wx hx; obtain ⟨hx1, hx2⟩ := hx; go_simp <;> with_reducible rfl)
  try simp only [Act.put, pA9, pZ9, pS9]
  refine tS 2 rfl ?_ hH ?_ ?_
  rotate_left
  · (intro wx hx; obtain ⟨hx1, hx2⟩ := hx; go_simp <;> with_reducible rfl)
  try simp only [Act.put, pA9, pZ9, pS9]
  refine tS 3 rfl ?_ hH ?_ ?_
  rotate_left
  · (intro wx hx; obtain ⟨hx1, hx2⟩ := hx; go_simp <;> with_reducible rfl)
  try simp only [Act.put, pA9, pZ9, pS9]
  refine tS 4 rfl ?_ hH ?_ ?_
  rotate_left
  · (intro wx hx; obtain ⟨hx1, hx2⟩ := hx; go_simp <;> with_reducible rfl)
  try simp only [Act.put, pA9, pZ9, pS9]
  refine tS 6 rfl ?_ hH ?_ ?_
  rotate_left
  · (intro wx hx; obtain ⟨hx1, hx2⟩ := hx; go_simp <;> with_reducible rfl)
  try simp only [Act.put, pA9, pZ9, pS9]
  refine tS 7 rfl ?_ hH ?_ ?_
  rotate_left
  · (intro wx hx; obtain ⟨hx1, hx2⟩ := hx; go_simp <;> with_reducible rfl)
  try simp only [Act.put, pA9, pZ9, pS9]
  refine tS 8 rfl ?_ hH ?_ ?_
  rotate_left
  · (intro wx hx; obtain ⟨hx1, hx2⟩ := hx; go_simp <;> with_reducible rfl)
  try simp only [Act.put, pA9, pZ9, pS9]
  refine wpAnyT_two 9 14 rfl rfl (by kernel_rfl) (fun K hK => ?_) (fun K hK => ?_)
  · rw [if_pos (by rfl)]
    go_simp
    go_at_call 25
    refine (ent_read A n cap bs p _ (Lh HPD.out.inb) HPL.out).mono ?_
    cases hr : rEnt bs p with
    | none =>
      rintro e w3 ⟨hb, rfl⟩
      have HP3 := Lh (HPD.out.below hb)
      have HR3 := Lh (HRD.out.below hb HRD.out.lt)
      have HN3 := Lh (HND.out.below hb HND.out.lt)
      have HK3 := Lh (HKD.out.trans (Keep.below hb))
      have hsz3 : wd.heap.size ≤ w3.heap.size := hb.size
      clear hb
      refine hK.out _ _ ⟨⟨HP3.out.blk.cell 0, HP3.out.blk.cell 1⟩, trivial⟩ (fun hH3 => ?_)
      clear hK K
      try simp only [Act.put, pA9, pZ9, pS9]
      refine tS 10 rfl ?_ hH3 ?_ ?_
      rotate_left
      · (intro wx hx; clear hx; go_simp <;> with_reducible rfl)
      try simp only [Act.put, pA9, pZ9, pS9]
      refine tS 11 rfl ?_ hH3 ?_ ?_
      rotate_left
      · (intro wx hx; clear hx; go_simp <;> with_reducible rfl)
      try simp only [Act.put, pA9, pZ9, pS9]
      refine tS 12 rfl ?_ hH3 ?_ ?_
      rotate_left
      · (intro wx hx; clear hx; go_simp <;> with_reducible rfl)
      try simp only [Act.put, pA9, pZ9, pS9]
      refine tS 13 rfl ?_ hH3 ?_ ?_
      rotate_left
      · (intro wx hx; clear hx; go_simp <;> with_reducible rfl)
      try simp only [Act.put, pA9, pZ9, pS9]
      refine wpAnyT_one 14 rfl (by kernel_rfl) (fun K hK => ?_)
      rw [if_pos (by rfl)]
      go_simp
      obtain ⟨w4, ew4⟩ : ∃ w4, w3.alloc (.cells #[.int .u64 0, .int .u64 0, .int .i64 0, .int .i64 0, .int .u64 0, .int .u64 0, .string ⟨#[]⟩, .int .i64 0, .int .u32 0, .int .u64 0, .int .u64 0, .int .i64 0, .int .i64 0, .bool false, .int .u64 0, .int .i64 0, .int .u64 0, .int .u64 0, .slice none 0 0, .slice none 0 0, .slice none 0 0] 86) = w4 := ⟨_, rfl⟩
      have hx4 : Blk (w3.alloc (.cells #[.int .u64 0, .int .u64 0, .int .i64 0, .int .i64 0, .int .u64 0, .int .u64 0, .string ⟨#[]⟩, .int .i64 0, .int .u32 0, .int .u64 0, .int .u64 0, .int .i64 0, .int .i64 0, .bool false, .int .u64 0, .int .i64 0, .int .u64 0, .int .u64 0, .slice none 0 0, .slice none 0 0, .slice none 0 0] 86)) w3.heap.size 86 #[.int .u64 0, .int .u64 0, .int .i64 0, .int .i64 0, .int .u64 0, .int .u64 0, .string ⟨#[]⟩, .int .i64 0, .int .u32 0, .int .u64 0, .int .u64 0, .int .i64 0, .int .i64 0, .bool false, .int .u64 0, .int .i64 0, .int .u64 0, .int .u64 0, .slice none 0 0, .slice none 0 0, .slice none 0 0] := Blk.new w3 _ _
      have hb4 : Below w3.heap.size w3 (w3.alloc (.cells #[.int .u64 0, .int .u64 0, .int .i64 0, .int .i64 0, .int .u64 0, .int .u64 0, .string ⟨#[]⟩, .int .i64 0, .int .u32 0, .int .u64 0, .int .u64 0, .int .i64 0, .int .i64 0, .bool false, .int .u64 0, .int .i64 0, .int .u64 0, .int .u64 0, .slice none 0 0, .slice none 0 0, .slice none 0 0] 86)) := (Below.refl _ _).alloc (Nat.le_refl _) _
      rw [ew4] at hx4 hb4
      rw [ew4]
      obtain ⟨hv, ehv⟩ : ∃ hv, w3.heap.size = hv := ⟨_, rfl⟩
      have HP4 := Lh (HP3.out.below hb4)
      have HR4 := Lh (HR3.out.below hb4 HR3.out.lt)
      have HN4 := Lh (HN3.out.below hb4 HN3.out.lt)
      have HK4 := Lh (HK3.out.trans (Keep.below hb4))
      rw [ehv] at hx4
      have HV4 := Lh hx4
      have hvg := Lh (show hv ≠ g from by have := HG.out; have := HS.out; omega)
      have hvr := Lh (show hv ≠ w.heap.size ∧ hv ≠ w0.heap.size from by have := HS.out; omega)
      have hvl := Lh (show w.heap.size ≤ hv from by have := HS.out; omega)
      have hlo := Lh (show w.heap.size < wd.heap.size from by have := HS.out; omega)
      clear hx4 ew4
      try rw [ehv]
      refine hK.out _ _ ⟨⟨HP4.out.blk.cell 0, HP4.out.blk.cell 1⟩, trivial⟩ (fun hH4 => ?_)
      clear hK K
      try simp only [Act.put, pA9, pZ9, pS9]
      refine wpAnyT_last 15 rfl (by kernel_rfl) (by decide) (fun K hK => ?_)
      refine step_store_blk rfl 86 (.tmp 6) (.tmp 26) rfl hv 86 #[.int .u64 0, .int .u64 0, .int .i64 0, .int .i64 0, .int .u64 0, .int .u64 0, .string ⟨#[]⟩, .int .i64 0, .int .u32 0, .int .u64 0, .int .u64 0, .int .i64 0, .int .i64 0, .bool false, .int .u64 0, .int .i64 0, .int .u64 0, .int .u64 0, .slice none 0 0, .slice none 0 0, .slice none 0 0] #[.int .u64 0, .int .u64 0, .int .i64 0, .int .i64 0, .int .u64 0, .int .u64 0, .string ⟨#[]⟩, .int .i64 0, .int .u32 0, .int .u64 0, .int .u64 0, .int .i64 0, .int .i64 0, .bool false, .int .u64 0, .int .i64 0, .int .u64 0, .int .u64 0, .slice none 0 0, .slice none 0 0, .slice none 0 0] rfl rfl HV4.out rfl Tryz.sizeE rfl ?_
      intro wf hBf hOf
      have HPw := Lh (HP4.out.only hOf.out hvg.out (fun h0 ad e => by have := HAL.out h0 ad e; have := hvl.out; show ad.block ≠ hv; omega))
      have HRw := Lh (hOf.out.blk HR4.out (fun e => hvr.out.1 e.symm))
      have HNw := Lh (hOf.out.blk HN4.out (fun e => hvr.out.2 e.symm))
      have HKw := Lh (HK4.out.only_new hOf.out hvl.out)
      have HVw := Lh hBf.out
      clear hb4 ehv
      refine hK.out _ _ ⟨HPw.out.blk.cell 0, HPw.out.blk.cell 1⟩ (fun hHf => ?_)
      clear hK K
      try simp only [Act.put, pA9, pZ9, pS9]
      refine tT 16 rfl ?_ ⟨hHf, fun h => absurd h (by decide)⟩ ?_ ?_
      rotate_left
      · (intro wx hx; clear hx; go_simp <;> with_reducible rfl)
      try simp only [Act.put, pA9, pZ9, pS9]
      refine tT 17 rfl ?_ ⟨hHf, fun h => absurd h (by decide)⟩ ?_ ?_
      rotate_left
      · (intro wx hx; clear hx; go_simp <;> with_reducible rfl)
      try simp only [Act.put, pA9, pZ9, pS9]
      refine wpAnyT_done (by kernel_rfl) ?_ _
      clear hH hH3 hHf
      have HF := Lh HPw.out.fail
      have HRk := Lh (HF.out.2.notBlk HRw.out hrg.out)
      have hng := Lh (show w0.heap.size ≠ g from by have := HG.out; have := HS.out; omega)
      have HNk := Lh (HF.out.2.notBlk HNw.out hng.out)
      have d2 := HPw.out.blk.cell 2
      have f2 := HPw.out.blk.frozen 2
      obtain ⟨wk, ewk⟩ : ∃ wk, wf.setCell ⟨g, 2, none⟩ (.iface 94 (.int .i64 50)) = wk := ⟨_, rfl⟩
      rw [ewk] at HF HRk HNk
      go_wp2_with (first
        | rw [ewk]
        | (refine wpl_load_blk rfl 86 (.tmp 5) rfl w0.heap.size 86 #[.int .u64 0, .int .u64 0, .int .i64 0, .int .i64 0, .int .u64 0, .int .u64 0, .string ⟨#[]⟩, .int .i64 0, .int .u32 0, .int .u64 0, .int .u64 0, .int .i64 0, .int .i64 0, .bool false, .int .u64 0, .int .i64 0, .int .u64 0, .int .u64 0, .slice none 0 0, .slice none 0 0, .slice none 0 0] _ rfl HNk.out Tryz.underlying86 rfl Tryz.sizeE ?_)
        | (refine wpl_store_blk rfl 86 (.tmp 4) (.tmp 35) rfl w.heap.size 86 #[.int .u64 0, .int .u64 0, .int .i64 0, .int .i64 0, .int .u64 0, .int .u64 0, .string ⟨#[]⟩, .int .i64 0, .int .u32 0, .int .u64 0, .int .u64 0, .int .i64 0, .int .i64 0, .bool false, .int .u64 0, .int .i64 0, .int .u64 0, .int .u64 0, .slice none 0 0, .slice none 0 0, .slice none 0 0] #[.int .u64 0, .int .u64 0, .int .i64 0, .int .i64 0, .int .u64 0, .int .u64 0, .string ⟨#[]⟩, .int .i64 0, .int .u32 0, .int .u64 0, .int .u64 0, .int .i64 0, .int .i64 0, .bool false, .int .u64 0, .int .i64 0, .int .u64 0, .int .u64 0, .slice none 0 0, .slice none 0 0, .slice none 0 0] rfl rfl HRk.out rfl Tryz.sizeE rfl ?_; intro w9 hB9 hO9))
      refine bodyPost_ret (v := .agg #[.int .u64 0, .int .u64 0, .int .i64 0, .int .i64 0, .int .u64 0, .int .u64 0, .string ⟨#[]⟩, .int .i64 0, .int .u32 0, .int .u64 0, .int .u64 0, .int .i64 0, .int .i64 0, .bool false, .int .u64 0, .int .i64 0, .int .u64 0, .int .u64 0, .slice none 0 0, .slice none 0 0, .slice none 0 0]) (res_c Tryz.results24 rfl (load_blk hB9.out Tryz.underlying86 rfl Tryz.sizeE)) rfl ?_
      rw [hr]
      refine ⟨(HKw.out.trans HF.out.2).only_new hO9.out (Nat.le_refl _), rfl, HF.out.1.only hO9.out hrg.out (fun h0 ad e => by have := HAL.out h0 ad e; show ad.block ≠ w.heap.size; omega)⟩
    | some y =>
      obtain ⟨y, q⟩ := y
      rintro e w3 ⟨hb, v, rfl, hv9⟩
      have HQ := Lh (show q ≤ n from by have := ((wr_ent HB.out).1 p y q hr (by rw [HLN.out]; exact HPL.out)).2.1; rw [HLN.out] at this; exact this)
      obtain ⟨cs, rfl, hcs, hone⟩ := agg_ent hv9
      have hcs := Lh hcs
      have hone := Lh hone
      have HV9 := Lh hv9
      clear hv9
      have HP3 := Lh (HPD.out.below hb)
      have HR3 := Lh (HRD.out.below hb HRD.out.lt)
      have HN3 := Lh (HND.out.below hb HND.out.lt)
      have HK3 := Lh (HKD.out.trans (Keep.below hb))
      have hsz3 : wd.heap.size ≤ w3.heap.size := hb.size
      clear hb
      refine hK.out _ _ ⟨⟨HP3.out.blk.cell 0, HP3.out.blk.cell 1⟩, trivial⟩ (fun hH3 => ?_)
      clear hK K
      try simp only [Act.put, pA9, pZ9, pS9]
      refine tS 10 rfl ?_ hH3 ?_ ?_
      rotate_left
      · (intro wx hx; clear hx; go_simp <;> with_reducible rfl)
      try simp only [Act.put, pA9, pZ9, pS9]
      refine tS 11 rfl ?_ hH3 ?_ ?_
      rotate_left
      · (intro wx hx; clear hx; go_simp <;> with_reducible rfl)
      try simp only [Act.put, pA9, pZ9, pS9]
      refine tS 12 rfl ?_ hH3 ?_ ?_
      rotate_left
      · (intro wx hx; clear hx; go_simp <;> with_reducible rfl)
      try simp only [Act.put, pA9, pZ9, pS9]
      refine tS 13 rfl ?_ hH3 ?_ ?_
      rotate_left
      · (intro wx hx; clear hx; go_simp <;> with_reducible rfl)
      try simp only [Act.put, pA9, pZ9, pS9]
      refine wpAnyT_one 14 rfl (by kernel_rfl) (fun K hK => ?_)
      rw [if_pos (by rfl)]
      go_simp
      obtain ⟨w4, ew4⟩ : ∃ w4, w3.alloc (.cells #[.int .u64 0, .int .u64 0, .int .i64 0, .int .i64 0, .int .u64 0, .int .u64 0, .string ⟨#[]⟩, .int .i64 0, .int .u32 0, .int .u64 0, .int .u64 0, .int .i64 0, .int .i64 0, .bool false, .int .u64 0, .int .i64 0, .int .u64 0, .int .u64 0, .slice none 0 0, .slice none 0 0, .slice none 0 0] 86) = w4 := ⟨_, rfl⟩
      have hx4 : Blk (w3.alloc (.cells #[.int .u64 0, .int .u64 0, .int .i64 0, .int .i64 0, .int .u64 0, .int .u64 0, .string ⟨#[]⟩, .int .i64 0, .int .u32 0, .int .u64 0, .int .u64 0, .int .i64 0, .int .i64 0, .bool false, .int .u64 0, .int .i64 0, .int .u64 0, .int .u64 0, .slice none 0 0, .slice none 0 0, .slice none 0 0] 86)) w3.heap.size 86 #[.int .u64 0, .int .u64 0, .int .i64 0, .int .i64 0, .int .u64 0, .int .u64 0, .string ⟨#[]⟩, .int .i64 0, .int .u32 0, .int .u64 0, .int .u64 0, .int .i64 0, .int .i64 0, .bool false, .int .u64 0, .int .i64 0, .int .u64 0, .int .u64 0, .slice none 0 0, .slice none 0 0, .slice none 0 0] := Blk.new w3 _ _
      have hb4 : Below w3.heap.size w3 (w3.alloc (.cells #[.int .u64 0, .int .u64 0, .int .i64 0, .int .i64 0, .int .u64 0, .int .u64 0, .string ⟨#[]⟩, .int .i64 0, .int .u32 0, .int .u64 0, .int .u64 0, .int .i64 0, .int .i64 0, .bool false, .int .u64 0, .int .i64 0, .int .u64 0, .int .u64 0, .slice none 0 0, .slice none 0 0, .slice none 0 0] 86)) := (Below.refl _ _).alloc (Nat.le_refl _) _
      rw [ew4] at hx4 hb4
      rw [ew4]
      obtain ⟨hv, ehv⟩ : ∃ hv, w3.heap.size = hv := ⟨_, rfl⟩
      have HP4 := Lh (HP3.out.below hb4)
      have HR4 := Lh (HR3.out.below hb4 HR3.out.lt)
      have HN4 := Lh (HN3.out.below hb4 HN3.out.lt)
      have HK4 := Lh (HK3.out.trans (Keep.below hb4))
      rw [ehv] at hx4
      have HV4 := Lh hx4
      have hvg := Lh (show hv ≠ g from by have := HG.out; have := HS.out; omega)
      have hvr := Lh (show hv ≠ w.heap.size ∧ hv ≠ w0.heap.size from by have := HS.out; omega)
      have hvl := Lh (show w.heap.size ≤ hv from by have := HS.out; omega)
      have hlo := Lh (show w.heap.size < wd.heap.size from by have := HS.out; omega)
      clear hx4 ew4
      try rw [ehv]
      refine hK.out _ _ ⟨⟨HP4.out.blk.cell 0, HP4.out.blk.cell 1⟩, trivial⟩ (fun hH4 => ?_)
      clear hK K
      try simp only [Act.put, pA9, pZ9, pS9]
      refine wpAnyT_last 15 rfl (by kernel_rfl) (by decide) (fun K hK => ?_)
      refine step_store_blk rfl 86 (.tmp 6) (.tmp 26) rfl hv 86 #[.int .u64 0, .int .u64 0, .int .i64 0, .int .i64 0, .int .u64 0, .int .u64 0, .string ⟨#[]⟩, .int .i64 0, .int .u32 0, .int .u64 0, .int .u64 0, .int .i64 0, .int .i64 0, .bool false, .int .u64 0, .int .i64 0, .int .u64 0, .int .u64 0, .slice none 0 0, .slice none 0 0, .slice none 0 0] cs rfl rfl HV4.out hcs.out.symm (by rw [hcs.out]; exact Tryz.sizeE) hone.out ?_
      intro wf hBf hOf
      have HPw := Lh (HP4.out.only hOf.out hvg.out (fun h0 ad e => by have := HAL.out h0 ad e; have := hvl.out; show ad.block ≠ hv; omega))
      have HRw := Lh (hOf.out.blk HR4.out (fun e => hvr.out.1 e.symm))
      have HNw := Lh (hOf.out.blk HN4.out (fun e => hvr.out.2 e.symm))
      have HKw := Lh (HK4.out.only_new hOf.out hvl.out)
      have HVw := Lh hBf.out
      have HV9 := Lh ((stays_ent wd.heap.size).1 _ _ _ _ HV9.out (hb4.trans (hOf.out.below (by omega))))
      clear hb4 ehv
      refine hK.out _ _ ⟨HPw.out.blk.cell 0, HPw.out.blk.cell 1⟩ (fun hHf => ?_)
      clear hK K
      try simp only [Act.put, pA9, pZ9, pS9]
      refine tT 16 rfl ?_ ⟨hHf, fun h => absurd h (by decide)⟩ ?_ ?_
      rotate_left
      · (intro wx hx; clear hx; go_simp <;> with_reducible rfl)
      try simp only [Act.put, pA9, pZ9, pS9]
      refine tT 17 rfl ?_ ⟨hHf, fun h => absurd h (by decide)⟩ ?_ ?_
      rotate_left
      · (intro wx hx; clear hx; go_simp <;> with_reducible rfl)
      try simp only [Act.put, pA9, pZ9, pS9]
      refine wpAnyT_done (by kernel_rfl) ?_ _
      clear hH hH3 hHf
      have HF := Lh (HPw.out.put (q := q) HQ.out)
      have HRk := Lh (HF.out.2.notBlk HRw.out hrg.out)
      have HVk := Lh (HF.out.2.notBlk HVw.out hvg.out)
      have d1 := HPw.out.blk.cell 1
      have f1 := HPw.out.blk.frozen 1
      obtain ⟨wk, ewk⟩ : ∃ wk, wf.setCell ⟨g, 1, none⟩ (.int .i64 (q : Int)) = wk := ⟨_, rfl⟩
      have hOk := Lh (show Only g wf wk from by rw [← ewk]; exact Only.set_ wf g 1 _)
      rw [ewk] at HF HRk HVk
      go_wp2_with (first
        | rw [ewk]
        | (refine wpl_load_blk rfl 86 (.tmp 6) rfl hv 86 cs _ rfl HVk.out Tryz.underlying86 rfl (by rw [hcs.out]; exact Tryz.sizeE) ?_)
        | (refine wpl_store_blk rfl 86 (.tmp 4) (.tmp 40) rfl w.heap.size 86 #[.int .u64 0, .int .u64 0, .int .i64 0, .int .i64 0, .int .u64 0, .int .u64 0, .string ⟨#[]⟩, .int .i64 0, .int .u32 0, .int .u64 0, .int .u64 0, .int .i64 0, .int .i64 0, .bool false, .int .u64 0, .int .i64 0, .int .u64 0, .int .u64 0, .slice none 0 0, .slice none 0 0, .slice none 0 0] cs rfl rfl HRk.out hcs.out.symm (by rw [hcs.out]; exact Tryz.sizeE) hone.out ?_; intro w9 hB9 hO9))
      refine bodyPost_ret (v := .agg cs) (res_c Tryz.results24 rfl (load_blk hB9.out Tryz.underlying86 rfl (by rw [hcs.out]; exact Tryz.sizeE))) rfl ?_
      rw [hr]
      refine ⟨(HKw.out.trans HF.out.2).only_new hO9.out (Nat.le_refl _), _, rfl, ?_, HF.out.1.only hO9.out hrg.out (fun h0 ad e => by have := HAL.out h0 ad e; show ad.block ≠ w.heap.size; omega)⟩
      have hll := hlo.out
      have hss := HS.out
      have hgg := HG.out
      have v1 := (stays_ent wd.heap.size).2 _ g _ _ _ HV9.out hOk.out (by omega)
      have v2 := (stays_ent wd.heap.size).2 _ w.heap.size _ _ _ v1 hO9.out (by omega)
      exact lo_ent (lo' := w.heap.size) v2 (by omega)
  · rw [if_pos (by rfl)]
    go_simp
    obtain ⟨w2, ew2⟩ : ∃ w2, wd.alloc (.cells #[.int .u64 0, .int .u64 0, .int .i64 0, .int .i64 0, .int .u64 0, .int .u64 0, .string ⟨#[]⟩, .int .i64 0, .int .u32 0, .int .u64 0, .int .u64 0, .int .i64 0, .int .i64 0, .bool false, .int .u64 0, .int .i64 0, .int .u64 0, .int .u64 0, .slice none 0 0, .slice none 0 0, .slice none 0 0] 86) = w2 := ⟨_, rfl⟩
    have hx2 : Blk (wd.alloc (.cells #[.int .u64 0, .int .u64 0, .int .i64 0, .int .i64 0, .int .u64 0, .int .u64 0, .string ⟨#[]⟩, .int .i64 0, .int .u32 0, .int .u64 0, .int .u64 0, .int .i64 0, .int .i64 0, .bool false, .int .u64 0, .int .i64 0, .int .u64 0, .int .u64 0, .slice none 0 0, .slice none 0 0, .slice none 0 0] 86)) wd.heap.size 86 #[.int .u64 0, .int .u64 0, .int .i64 0, .int .i64 0, .int .u64 0, .int .u64 0, .string ⟨#[]⟩, .int .i64 0, .int .u32 0, .int .u64 0, .int .u64 0, .int .i64 0, .int .i64 0, .bool false, .int .u64 0, .int .i64 0, .int .u64 0, .int .u64 0, .slice none 0 0, .slice none 0 0, .slice none 0 0] := Blk.new wd _ _
    have hb2 : Below wd.heap.size wd (wd.alloc (.cells #[.int .u64 0, .int .u64 0, .int .i64 0, .int .i64 0, .int .u64 0, .int .u64 0, .string ⟨#[]⟩, .int .i64 0, .int .u32 0, .int .u64 0, .int .u64 0, .int .i64 0, .int .i64 0, .bool false, .int .u64 0, .int .i64 0, .int .u64 0, .int .u64 0, .slice none 0 0, .slice none 0 0, .slice none 0 0] 86)) := (Below.refl _ _).alloc (Nat.le_refl _) _
    have hs2 : (wd.alloc (.cells #[.int .u64 0, .int .u64 0, .int .i64 0, .int .i64 0, .int .u64 0, .int .u64 0, .string ⟨#[]⟩, .int .i64 0, .int .u32 0, .int .u64 0, .int .u64 0, .int .i64 0, .int .i64 0, .bool false, .int .u64 0, .int .i64 0, .int .u64 0, .int .u64 0, .slice none 0 0, .slice none 0 0, .slice none 0 0] 86)).heap.size = wd.heap.size + 1 := by simp
    rw [ew2] at hx2 hb2 hs2
    rw [ew2]
    rw [hsd] at hx2 hs2
    obtain ⟨hv, ehv⟩ : ∃ hv, w1.heap.size = hv := ⟨_, rfl⟩
    rw [ehv] at hx2 hs2
    have HPA := Lh (HPD.out.below hb2)
    have HRA := Lh (HRD.out.below hb2 HRD.out.lt)
    have HNA := Lh (HND.out.below hb2 HND.out.lt)
    have HKA := Lh (HKD.out.trans (Keep.below hb2))
    have HVA := Lh hx2
    have hvg := Lh (show hv ≠ g from by have := HG.out; have := HS.out; omega)
    have hvr := Lh (show hv ≠ w.heap.size ∧ hv ≠ w0.heap.size from by have := HS.out; omega)
    have hvl := Lh (show w.heap.size ≤ hv from by have := HS.out; omega)
    have hlo := Lh (show hv < w2.heap.size ∧ w.heap.size < w2.heap.size from by have := HS.out; omega)
    clear hx2 hb2 hs2 ew2
    try rw [ehv]
    clear ehv
    refine hK.out _ _ ⟨⟨HPA.out.blk.cell 0, HPA.out.blk.cell 1⟩, trivial⟩ (fun hHa => ?_)
    clear hK K
    try simp only [Act.put, pA9, pZ9, pS9]
    refine wpAnyT_one 9 rfl (by kernel_rfl) (fun K hK => ?_)
    rw [if_pos (by rfl)]
    go_simp
    go_at_call 25
    refine (ent_read A n cap bs p _ (Lh HPA.out.inb) HPL.out).mono ?_
    cases hr : rEnt bs p with
    | none =>
      rintro e w3 ⟨hb, rfl⟩
      have HP3 := Lh (HPA.out.below hb)
      have HR3 := Lh (HRA.out.below hb HRA.out.lt)
      have HN3 := Lh (HNA.out.below hb HNA.out.lt)
      have HK3 := Lh (HKA.out.trans (Keep.below hb))
      have hsz3 : w2.heap.size ≤ w3.heap.size := hb.size
      have HV3 := Lh (HVA.out.below hb HVA.out.lt)
      clear hb
      refine hK.out _ _ ⟨⟨HP3.out.blk.cell 0, HP3.out.blk.cell 1⟩, trivial⟩ (fun hH3 => ?_)
      clear hK K
      try simp only [Act.put, pA9, pZ9, pS9]
      refine tS 10 rfl ?_ hH3 ?_ ?_
      rotate_left
      · (intro wx hx; clear hx; go_simp <;> with_reducible rfl)
      try simp only [Act.put, pA9, pZ9, pS9]
      refine tS 11 rfl ?_ hH3 ?_ ?_
      rotate_left
      · (intro wx hx; clear hx; go_simp <;> with_reducible rfl)
      try simp only [Act.put, pA9, pZ9, pS9]
      refine tS 12 rfl ?_ hH3 ?_ ?_
      rotate_left
      · (intro wx hx; clear hx; go_simp <;> with_reducible rfl)
      try simp only [Act.put, pA9, pZ9, pS9]
      refine tS 13 rfl ?_ hH3 ?_ ?_
      rotate_left
      · (intro wx hx; clear hx; go_simp <;> with_reducible rfl)
      try simp only [Act.put, pA9, pZ9, pS9]
      refine wpAnyT_last 15 rfl (by kernel_rfl) (by decide) (fun K hK => ?_)
      refine step_store_blk rfl 86 (.tmp 6) (.tmp 26) rfl hv 86 #[.int .u64 0, .int .u64 0, .int .i64 0, .int .i64 0, .int .u64 0, .int .u64 0, .string ⟨#[]⟩, .int .i64 0, .int .u32 0, .int .u64 0, .int .u64 0, .int .i64 0, .int .i64 0, .bool false, .int .u64 0, .int .i64 0, .int .u64 0, .int .u64 0, .slice none 0 0, .slice none 0 0, .slice none 0 0] #[.int .u64 0, .int .u64 0, .int .i64 0, .int .i64 0, .int .u64 0, .int .u64 0, .string ⟨#[]⟩, .int .i64 0, .int .u32 0, .int .u64 0, .int .u64 0, .int .i64 0, .int .i64 0, .bool false, .int .u64 0, .int .i64 0, .int .u64 0, .int .u64 0, .slice none 0 0, .slice none 0 0, .slice none 0 0] rfl rfl HV3.out rfl Tryz.sizeE rfl ?_
      intro wf hBf hOf
      have HPw := Lh (HP3.out.only hOf.out hvg.out (fun h0 ad e => by have := HAL.out h0 ad e; have := hvl.out; show ad.block ≠ hv; omega))
      have HRw := Lh (hOf.out.blk HR3.out (fun e => hvr.out.1 e.symm))
      have HNw := Lh (hOf.out.blk HN3.out (fun e => hvr.out.2 e.symm))
      have HKw := Lh (HK3.out.only_new hOf.out hvl.out)
      have HVw := Lh hBf.out
      refine hK.out _ _ ⟨HPw.out.blk.cell 0, HPw.out.blk.cell 1⟩ (fun hHf => ?_)
      clear hK K
      try simp only [Act.put, pA9, pZ9, pS9]
      refine tT 16 rfl ?_ ⟨hHf, fun h => absurd h (by decide)⟩ ?_ ?_
      rotate_left
      · (intro wx hx; clear hx; go_simp <;> with_reducible rfl)
      try simp only [Act.put, pA9, pZ9, pS9]
      refine tT 17 rfl ?_ ⟨hHf, fun h => absurd h (by decide)⟩ ?_ ?_
      rotate_left
      · (intro wx hx; clear hx; go_simp <;> with_reducible rfl)
      try simp only [Act.put, pA9, pZ9, pS9]
      refine wpAnyT_done (by kernel_rfl) ?_ _
      clear hH hH3 hHf
      have HF := Lh HPw.out.fail
      have HRk := Lh (HF.out.2.notBlk HRw.out hrg.out)
      have hng := Lh (show w0.heap.size ≠ g from by have := HG.out; have := HS.out; omega)
      have HNk := Lh (HF.out.2.notBlk HNw.out hng.out)
      have d2 := HPw.out.blk.cell 2
      have f2 := HPw.out.blk.frozen 2
      obtain ⟨wk, ewk⟩ : ∃ wk, wf.setCell ⟨g, 2, none⟩ (.iface 94 (.int .i64 50)) = wk := ⟨_, rfl⟩
      rw [ewk] at HF HRk HNk
      go_wp2_with (first
        | rw [ewk]
        | (refine wpl_load_blk rfl 86 (.tmp 5) rfl w0.heap.size 86 #[.int .u64 0, .int .u64 0, .int .i64 0, .int .i64 0, .int .u64 0, .int .u64 0, .string ⟨#[]⟩, .int .i64 0, .int .u32 0, .int .u64 0, .int .u64 0, .int .i64 0, .int .i64 0, .bool false, .int .u64 0, .int .i64 0, .int .u64 0, .int .u64 0, .slice none 0 0, .slice none 0 0, .slice none 0 0] _ rfl HNk.out Tryz.underlying86 rfl Tryz.sizeE ?_)
        | (refine wpl_store_blk rfl 86 (.tmp 4) (.tmp 35) rfl w.heap.size 86 #[.int .u64 0, .int .u64 0, .int .i64 0, .int .i64 0, .int .u64 0, .int .u64 0, .string ⟨#[]⟩, .int .i64 0, .int .u32 0, .int .u64 0, .int .u64 0, .int .i64 0, .int .i64 0, .bool false, .int .u64 0, .int .i64 0, .int .u64 0, .int .u64 0, .slice none 0 0, .slice none 0 0, .slice none 0 0] #[.int .u64 0, .int .u64 0, .int .i64 0, .int .i64 0, .int .u64 0, .int .u64 0, .string ⟨#[]⟩, .int .i64 0, .int .u32 0, .int .u64 0, .int .u64 0, .int .i64 0, .int .i64 0, .bool false, .int .u64 0, .int .i64 0, .int .u64 0, .int .u64 0, .slice none 0 0, .slice none 0 0, .slice none 0 0] rfl rfl HRk.out rfl Tryz.sizeE rfl ?_; intro w9 hB9 hO9))
      refine bodyPost_ret (v := .agg #[.int .u64 0, .int .u64 0, .int .i64 0, .int .i64 0, .int .u64 0, .int .u64 0, .string ⟨#[]⟩, .int .i64 0, .int .u32 0, .int .u64 0, .int .u64 0, .int .i64 0, .int .i64 0, .bool false, .int .u64 0, .int .i64 0, .int .u64 0, .int .u64 0, .slice none 0 0, .slice none 0 0, .slice none 0 0]) (res_c Tryz.results24 rfl (load_blk hB9.out Tryz.underlying86 rfl Tryz.sizeE)) rfl ?_
      rw [hr]
      refine ⟨(HKw.out.trans HF.out.2).only_new hO9.out (Nat.le_refl _), rfl, HF.out.1.only hO9.out hrg.out (fun h0 ad e => by have := HAL.out h0 ad e; show ad.block ≠ w.heap.size; omega)⟩
    | some y =>
      obtain ⟨y, q⟩ := y
      rintro e w3 ⟨hb, v, rfl, hv9⟩
      have HQ := Lh (show q ≤ n from by have := ((wr_ent HB.out).1 p y q hr (by rw [HLN.out]; exact HPL.out)).2.1; rw [HLN.out] at this; exact this)
      obtain ⟨cs, rfl, hcs, hone⟩ := agg_ent hv9
      have hcs := Lh hcs
      have hone := Lh hone
      have HV9 := Lh hv9
      clear hv9
      have HP3 := Lh (HPA.out.below hb)
      have HR3 := Lh (HRA.out.below hb HRA.out.lt)
      have HN3 := Lh (HNA.out.below hb HNA.out.lt)
      have HK3 := Lh (HKA.out.trans (Keep.below hb))
      have hsz3 : w2.heap.size ≤ w3.heap.size := hb.size
      have HV3 := Lh (HVA.out.below hb HVA.out.lt)
      clear hb
      refine hK.out _ _ ⟨⟨HP3.out.blk.cell 0, HP3.out.blk.cell 1⟩, trivial⟩ (fun hH3 => ?_)
      clear hK K
      try simp only [Act.put, pA9, pZ9, pS9]
      refine tS 10 rfl ?_ hH3 ?_ ?_
      rotate_left
      · (intro wx hx; clear hx; go_simp <;> with_reducible rfl)
      try simp only [Act.put, pA9, pZ9, pS9]
      refine tS 11 rfl ?_ hH3 ?_ ?_
      rotate_left
      · (intro wx hx; clear hx; go_simp <;> with_reducible rfl)
      try simp only [Act.put, pA9, pZ9, pS9]
      refine tS 12 rfl ?_ hH3 ?_ ?_
      rotate_left
      · (intro wx hx; clear hx; go_simp <;> with_reducible rfl)
      try simp only [Act.put, pA9, pZ9, pS9]
      refine tS 13 rfl ?_ hH3 ?_ ?_
      rotate_left
      · (intro wx hx; clear hx; go_simp <;> with_reducible rfl)
      try simp only [Act.put, pA9, pZ9, pS9]
      refine wpAnyT_last 15 rfl (by kernel_rfl) (by decide) (fun K hK => ?_)
      refine step_store_blk rfl 86 (.tmp 6) (.tmp 26) rfl hv 86 #[.int .u64 0, .int .u64 0, .int .i64 0, .int .i64 0, .int .u64 0, .int .u64 0, .string ⟨#[]⟩, .int .i64 0, .int .u32 0, .int .u64 0, .int .u64 0, .int .i64 0, .int .i64 0, .bool false, .int .u64 0, .int .i64 0, .int .u64 0, .int .u64 0, .slice none 0 0, .slice none 0 0, .slice none 0 0] cs rfl rfl HV3.out hcs.out.symm (by rw [hcs.out]; exact Tryz.sizeE) hone.out ?_
      intro wf hBf hOf
      have HPw := Lh (HP3.out.only hOf.out hvg.out (fun h0 ad e => by have := HAL.out h0 ad e; have := hvl.out; show ad.block ≠ hv; omega))
      have HRw := Lh (hOf.out.blk HR3.out (fun e => hvr.out.1 e.symm))
      have HNw := Lh (hOf.out.blk HN3.out (fun e => hvr.out.2 e.symm))
      have HKw := Lh (HK3.out.only_new hOf.out hvl.out)
      have HVw := Lh hBf.out
      have HV9 := Lh ((stays_ent w2.heap.size).2 _ _ _ _ _ HV9.out hOf.out hlo.out.1)
      refine hK.out _ _ ⟨HPw.out.blk.cell 0, HPw.out.blk.cell 1⟩ (fun hHf => ?_)
      clear hK K
      try simp only [Act.put, pA9, pZ9, pS9]
      refine tT 16 rfl ?_ ⟨hHf, fun h => absurd h (by decide)⟩ ?_ ?_
      rotate_left
      · (intro wx hx; clear hx; go_simp <;> with_reducible rfl)
      try simp only [Act.put, pA9, pZ9, pS9]
      refine tT 17 rfl ?_ ⟨hHf, fun h => absurd h (by decide)⟩ ?_ ?_
      rotate_left
      · (intro wx hx; clear hx; go_simp <;> with_reducible rfl)
      try simp only [Act.put, pA9, pZ9, pS9]
      refine wpAnyT_done (by kernel_rfl) ?_ _
      clear hH hH3 hHf
      have HF := Lh (HPw.out.put (q := q) HQ.out)
      have HRk := Lh (HF.out.2.notBlk HRw.out hrg.out)
      have HVk := Lh (HF.out.2.notBlk HVw.out hvg.out)
      have d1 := HPw.out.blk.cell 1
      have f1 := HPw.out.blk.frozen 1
      obtain ⟨wk, ewk⟩ : ∃ wk, wf.setCell ⟨g, 1, none⟩ (.int .i64 (q : Int)) = wk := ⟨_, rfl⟩
      have hOk := Lh (show Only g wf wk from by rw [← ewk]; exact Only.set_ wf g 1 _)
      rw [ewk] at HF HRk HVk
      go_wp2_with (first
        | rw [ewk]
        | (refine wpl_load_blk rfl 86 (.tmp 6) rfl hv 86 cs _ rfl HVk.out Tryz.underlying86 rfl (by rw [hcs.out]; exact Tryz.sizeE) ?_)
        | (refine wpl_store_blk rfl 86 (.tmp 4) (.tmp 40) rfl w.heap.size 86 #[.int .u64 0, .int .u64 0, .int .i64 0, .int .i64 0, .int .u64 0, .int .u64 0, .string ⟨#[]⟩, .int .i64 0, .int .u32 0, .int .u64 0, .int .u64 0, .int .i64 0, .int .i64 0, .bool false, .int .u64 0, .int .i64 0, .int .u64 0, .int .u64 0, .slice none 0 0, .slice none 0 0, .slice none 0 0] cs rfl rfl HRk.out hcs.out.symm (by rw [hcs.out]; exact Tryz.sizeE) hone.out ?_; intro w9 hB9 hO9))
      refine bodyPost_ret (v := .agg cs) (res_c Tryz.results24 rfl (load_blk hB9.out Tryz.underlying86 rfl (by rw [hcs.out]; exact Tryz.sizeE))) rfl ?_
      rw [hr]
      refine ⟨(HKw.out.trans HF.out.2).only_new hO9.out (Nat.le_refl _), _, rfl, ?_, HF.out.1.only hO9.out hrg.out (fun h0 ad e => by have := HAL.out h0 ad e; show ad.block ≠ w.heap.size; omega)⟩
      have hll := hlo.out
      have hss := HS.out
      have hgg := HG.out
      have v1 := (stays_ent w2.heap.size).2 _ g _ _ _ HV9.out hOk.out (by omega)
      have v2 := (stays_ent w2.heap.size).2 _ w.heap.size _ _ _ v1 hO9.out (by omega)
      exact lo_ent (lo' := w.heap.size) v2 (by omega)
end Go.Proofs.YtijdbdenmcjmmaaGreatDoor
end
