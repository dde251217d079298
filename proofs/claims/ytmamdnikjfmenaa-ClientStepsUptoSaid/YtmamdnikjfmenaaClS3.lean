/-
  The reference's Got: what answers a call.
-/
import Derived.Test.YtmamdnikjfmenaaClS2
namespace Go.Proofs.Ytmamdnikjfmenaa
open Go.RowKit
set_option linter.unusedVariables false
theorem own_none (w : World) : (w.alloc (.cells #[] 9)).ownsRow w.heap.size 9 1 (.slice (some ⟨w.heap.size, 0, none⟩) 0 0) 0 [] := World.ownsRow_lit _ #[] 0 (Nat.le_refl _) (by unfold maxLen; omega) rfl
theorem own_apart_types {w : World} {base base' size size' n m : Nat} {v v' : Value} {xs ys : List Value} (h : w.ownsRow base 5 size v n xs) (h' : w.ownsRow base' 9 size' v' m ys) : v.ownBlock = none ∨ v.ownBlock ≠ v'.ownBlock := by
  rcases h'.2 with ⟨rfl, _⟩ | ⟨g', cap, cur, rfl, _, hh, _⟩
  · cases hv : v.ownBlock with
    | none => exact .inl rfl
    | some k => exact .inr (by simp [Value.ownBlock])
  · exact .inr (own_blk_ne h hh (by decide))
theorem run_build_none (w : World) : (Instr.buildSlice 36 0 #[]).run Try.prog w = .ok (.slice (some ⟨w.heap.size, 0, none⟩) 0 0) (w.alloc (.cells #[] 9)) := by
  obtain ⟨i, h1, h2, h3, h4⟩ := info_parts Try.infoT
  simp [Instr.buildSlice, run_underlying Try.underlying36, sizeOf, typeInfo, h1, newRow, Instr.fill]
  exact congrArg (fun cs => w.alloc (.cells cs 9)) (Array.eq_empty_of_size_eq_zero (by simp))
theorem step_build_none {ops : Array Oper} {op : Oper} {a : Act} {w : World} {K : Act → World → Prop} {Q : Exit → Act → World → Prop} {E : Prop} (hgd : op.guard = none) (ho : op.op = .buildSlice 36 0 #[])
    (h : K (a.put op.dst (.slice (some ⟨w.heap.size, 0, none⟩) 0 0)) (w.alloc (.cells #[] 9))) :
    if Region.wanted op (yielded ops a.tmps) = true then Oper.wp Try.prog op a w K Q else E := by
  have hw : Region.wanted op (yielded ops a.tmps) = true := by simp [Region.wanted, hgd]
  rw [if_pos hw]
  unfold Oper.wp execOp
  have e : (#[] : Array (Nat × Operand)).map (fun (i, x) => (i, a.eval x)) = #[] := by simp
  simp only [ho, e, Sem.run_bind, run_build_none, Result.andThen_ok]
  exact h
/-- The codes that answer a call. -/
def Tells (c : Cal) (code : Int) : Prop := code = 1 ∨ code = 2 ∨ code = 3 ∨ (code = 4 ∧ (c.kind = 2 ∨ c.kind = 4))
theorem tells_facts {c : Cal} {code : Int} (h : Tells c code) :
    ((code == 5) = false ∧ (code == 1) = true ∧ (c.kind == 2) = true) ∨ ((code == 5) = false ∧ (code == 1) = true ∧ (c.kind == 2) = false ∧ (c.kind == 4) = true) ∨ ((code == 5) = false ∧ (code == 1) = true ∧ (c.kind == 2) = false ∧ (c.kind == 4) = false) ∨
    ((code == 5) = false ∧ (code == 1) = false ∧ (code == 2) = true ∧ (c.kind == 2) = true) ∨ ((code == 5) = false ∧ (code == 1) = false ∧ (code == 2) = true ∧ (c.kind == 2) = false ∧ (c.kind == 4) = true) ∨ ((code == 5) = false ∧ (code == 1) = false ∧ (code == 2) = true ∧ (c.kind == 2) = false ∧ (c.kind == 4) = false) ∨
    ((code == 5) = false ∧ (code == 1) = false ∧ (code == 2) = false ∧ (code == 3) = true ∧ (c.kind == 2) = true) ∨ ((code == 5) = false ∧ (code == 1) = false ∧ (code == 2) = false ∧ (code == 3) = true ∧ (c.kind == 2) = false ∧ (c.kind == 4) = true) ∨ ((code == 5) = false ∧ (code == 1) = false ∧ (code == 2) = false ∧ (code == 3) = true ∧ (c.kind == 2) = false ∧ (c.kind == 4) = false) ∨
    ((code == 5) = false ∧ (code == 1) = false ∧ (code == 2) = false ∧ (code == 3) = false ∧ (code == 4) = true ∧ (c.kind == 2) = true) ∨ ((code == 5) = false ∧ (code == 1) = false ∧ (code == 2) = false ∧ (code == 3) = false ∧ (code == 4) = true ∧ (c.kind == 2) = false ∧ (c.kind == 4) = true) := by
  rcases h with rfl | rfl | rfl | ⟨rfl, h⟩ <;> by_cases a : c.kind = 2 <;> by_cases b : c.kind = 4 <;> simp_all
set_option maxRecDepth 100000 in
set_option maxHeartbeats 40000000 in
theorem rgot_tells (c : Cal) (n : Nat) (N : Option Addr) (nc m : Nat) (D : Option Addr) (dc : Nat) (ms : Array Value) (kind : Int) (client seq : Nat) (code : Int) (w : World) (h : Hid (CalIn w c n N nc m D dc)) (hm : May c) (hms : ms.size = 27) (hm0 : ms[0]? = some (.int .i64 kind)) (hm21 : ms[21]? = some (.int .u64 client)) (hm22 : ms[22]? = some (.int .u64 seq)) (hm25 : ms[25]? = some (.int .i64 code)) (ho : c.opn = true) (hk : kind = 17) (hc : client = c.client) (hs : seq = c.seq) (hcd : Tells c code) (E : Option Addr) (em ec : Nat) (data : List Nat) (hm20 : ms[20]? = some (.slice E em ec)) (HE : Hid (Reads w w.heap.size 1 E em (data.map bv))) (hem : em ≤ 140737488351232) (G : Option Addr) (gm gc : Nat) (names : List Value) (hm26 : ms[26]? = some (.slice G gm gc)) (HG : Hid (Reads w w.heap.size 1 G gm names)) (hn1 : ∀ u ∈ names, u.oneCell' = true) (hgm : gm * 16 ≤ 140737488355328) :
    Calls Try.prog 17 #[.agg (c.cs n N nc m D dc), .agg ms] w (RetTells c n N nc code em gm data names w) := by
  subst hk
  subst hc
  subst hs
  have e1 : ((c.client : Int) != (c.client : Int)) = false := by simp
  have e2 : ((c.seq : Int) != (c.seq : Int)) = false := by simp
  have HM20 := Lib.hid hm20
  have HM26 := Lib.hid hm26
  have oneb := Lib.hid (bv_one data)
  have onet := Lib.hid hn1
  clear hm20 hm26 hn1
  have HM := Lib.hid (may_opn hm true)
  have hcl := hm.c2
  clear hm
  unfold Cal.cs
  rw [ho]
  have HO := Lib.hid ho
  clear ho
  have hb0 := ((((Below.refl w.heap.size w).alloc (Nat.le_refl _) (.cells #[.int .u64 c.client, .slice N n nc, .int .i64 (c.at_), .int .i64 (c.turn), .int .u64 c.seq, .bool true, .int .i64 (c.kind), .string c.key, .slice D m dc, .int .i64 (c.waited), .int .i64 c.retry, .int .i64 c.limit] 40)).alloc (by simp) (.cells ms 38)).alloc (by simp; omega) (.cells #[.int .u64 0, .slice none 0 0, .int .i64 0, .int .i64 0, .int .u64 0, .bool false, .int .i64 0, .string ⟨#[]⟩, .slice none 0 0, .int .i64 0, .int .i64 0, .int .i64 0] 40)).alloc (by simp; omega) (.cells (ansZ 0) 47)
  have b0 := (((Blk.new w 40 #[.int .u64 c.client, .slice N n nc, .int .i64 (c.at_), .int .i64 (c.turn), .int .u64 c.seq, .bool true, .int .i64 (c.kind), .string c.key, .slice D m dc, .int .i64 (c.waited), .int .i64 c.retry, .int .i64 c.limit]).alloc (.cells ms 38)).alloc (.cells #[.int .u64 0, .slice none 0 0, .int .i64 0, .int .i64 0, .int .u64 0, .bool false, .int .i64 0, .string ⟨#[]⟩, .slice none 0 0, .int .i64 0, .int .i64 0, .int .i64 0] 40)).alloc (.cells (ansZ 0) 47)
  have b3 := ((blk_second w (.cells #[.int .u64 c.client, .slice N n nc, .int .i64 (c.at_), .int .i64 (c.turn), .int .u64 c.seq, .bool true, .int .i64 (c.kind), .string c.key, .slice D m dc, .int .i64 (c.waited), .int .i64 c.retry, .int .i64 c.limit] 40) 38 ms).alloc (.cells #[.int .u64 0, .slice none 0 0, .int .i64 0, .int .i64 0, .int .u64 0, .bool false, .int .i64 0, .string ⟨#[]⟩, .slice none 0 0, .int .i64 0, .int .i64 0, .int .i64 0] 40)).alloc (.cells (ansZ 0) 47)
  have b1 := (blk_second (w.alloc (.cells #[.int .u64 c.client, .slice N n nc, .int .i64 (c.at_), .int .i64 (c.turn), .int .u64 c.seq, .bool true, .int .i64 (c.kind), .string c.key, .slice D m dc, .int .i64 (c.waited), .int .i64 c.retry, .int .i64 c.limit] 40)) (.cells ms 38) 40 #[.int .u64 0, .slice none 0 0, .int .i64 0, .int .i64 0, .int .u64 0, .bool false, .int .i64 0, .string ⟨#[]⟩, .slice none 0 0, .int .i64 0, .int .i64 0, .int .i64 0]).alloc (.cells (ansZ 0) 47)
  have b2 := blk_second ((w.alloc (.cells #[.int .u64 c.client, .slice N n nc, .int .i64 (c.at_), .int .i64 (c.turn), .int .u64 c.seq, .bool true, .int .i64 (c.kind), .string c.key, .slice D m dc, .int .i64 (c.waited), .int .i64 c.retry, .int .i64 c.limit] 40)).alloc (.cells ms 38)) (.cells #[.int .u64 0, .slice none 0 0, .int .i64 0, .int .i64 0, .int .u64 0, .bool false, .int .i64 0, .string ⟨#[]⟩, .slice none 0 0, .int .i64 0, .int .i64 0, .int .i64 0] 40) 47 (ansZ 0)
  simp only [World.size_alloc] at b1 b2
  obtain ⟨wa, hwa⟩ : ∃ wa, (((w.alloc (.cells #[.int .u64 c.client, .slice N n nc, .int .i64 (c.at_), .int .i64 (c.turn), .int .u64 c.seq, .bool true, .int .i64 (c.kind), .string c.key, .slice D m dc, .int .i64 (c.waited), .int .i64 c.retry, .int .i64 c.limit] 40)).alloc (.cells ms 38)).alloc (.cells #[.int .u64 0, .slice none 0 0, .int .i64 0, .int .i64 0, .int .u64 0, .bool false, .int .i64 0, .string ⟨#[]⟩, .slice none 0 0, .int .i64 0, .int .i64 0, .int .i64 0] 40)).alloc (.cells (ansZ 0) 47) = wa := ⟨_, rfl⟩
  have hsz : wa.heap.size = w.heap.size + 1 + 1 + 1 + 1 := by rw [← hwa]; simp
  rw [hwa] at hb0 b0 b1 b2 b3
  obtain ⟨bx, hbx⟩ : ∃ bx, w.heap.size = bx := ⟨_, rfl⟩
  have HBX := Lib.hid hbx
  rw [hbx] at b0 b1 b2 b3 hsz
  have HS := Lib.hid hsz
  have HA := Lib.hid hb0
  have C1 := Lib.hid ((calin_opn h.out true).later hb0)
  have Z1 := Lib.hid b1
  have Z2 := Lib.hid b2
  have X0 := Lib.hid b0
  have Y0 := Lib.hid b3
  have HM0 := Lib.hid hm0
  have HM21 := Lib.hid hm21
  have HM22 := Lib.hid hm22
  have HM25 := Lib.hid hm25
  have HMS := Lib.hid hms
  have x0 := b0.cell 0
  have x1 := b0.cell 1
  have x2 := b0.cell 2
  have x3 := b0.cell 3
  have x4 := b0.cell 4
  have x5 := b0.cell 5
  have x6 := b0.cell 6
  have x7 := b0.cell 7
  have x8 := b0.cell 8
  have x9 := b0.cell 9
  have x10 := b0.cell 10
  have x11 := b0.cell 11
  simp only [List.getElem?_toArray, List.getElem?_cons_zero, List.getElem?_cons_succ] at x0 x1 x2 x3 x4 x5 x6 x7 x8 x9 x10 x11
  clear hsz hb0 b0 b1 b2 b3 hm0 hm21 hm22 hm25 hms
  unfold ansZ at hwa
  go_enter Try.func17, Try.ntmps17
  have hcd' := tells_facts hcd
  clear hcd
  rcases hcd' with ⟨f5, f1, g2⟩ | ⟨f5, f1, g2, g4⟩ | ⟨f5, f1, g2, g4⟩ | ⟨f5, f1, f2, g2⟩ | ⟨f5, f1, f2, g2, g4⟩ | ⟨f5, f1, f2, g2, g4⟩ | ⟨f5, f1, f2, f3, g2⟩ | ⟨f5, f1, f2, f3, g2, g4⟩ | ⟨f5, f1, f2, f3, g2, g4⟩ | ⟨f5, f1, f2, f3, f4, g2⟩ | ⟨f5, f1, f2, f3, f4, g2, g4⟩
  all_goals
    go_wp2_with (go_at_call 32; clear hwa; refine (rmay_yes (c := { c with opn := true }) (n := n) (N := N) (nc := nc) (m := m) (D := D) (dc := dc) C1 HM.out).mono ?_; rintro e w1 ⟨rfl, hb⟩; have HA1 := Lib.hid (HA.out.trans (hb.mono HA.out.size)); have Z1 := Lib.hid (Z1.out.below hb Z1.out.lt); have Z2 := Lib.hid (Z2.out.below hb Z2.out.lt); have x := X0.out.below hb X0.out.lt; have y := Y0.out.below hb Y0.out.lt; have c0 := x.cell 0; have c1 := x.cell 1; have c2 := x.cell 2; have c3 := x.cell 3; have c4 := x.cell 4; have c5 := x.cell 5; have c6 := x.cell 6; have c7 := x.cell 7; have c8 := x.cell 8; have c9 := x.cell 9; have c10 := x.cell 10; have c11 := x.cell 11; have fx := x.frozen; have y0 := (y.cell 0).trans HM0.out; have y21 := (y.cell 21).trans HM21.out; have y22 := (y.cell 22).trans HM22.out; have y25 := (y.cell 25).trans HM25.out; have Y1 := Lib.hid y; have X1 := Lib.hid x; have HS1 := Lib.hid (show bx + 1 + 1 + 1 + 1 ≤ w1.heap.size from by have := hb.size; have := HS.out; omega); clear x y hb x0 x1 x2 x3 x4 x5 x6 x7 x8 x9 x10 x11; simp only [List.getElem?_toArray, List.getElem?_cons_zero, List.getElem?_cons_succ] at c0 c1 c2 c3 c4 c5 c6 c7 c8 c9 c10 c11)
    have EB := Lib.hid ((HE.out.below HA1.out).more (B' := w1.heap.size) (by rw [hbx]; have := HS1.out; omega))
    have GB := Lib.hid ((HG.out.below HA1.out).more (B' := w1.heap.size) (by rw [hbx]; have := HS1.out; omega))
    clear y0 y21 y22 y25 fx c0 c1 c2 c3 c4 c5 c6 c7 c8 c9 c10 c11
    refine wp_region_late (S0 := fun w' => Hid (Blk w' bx 40 #[.int .u64 c.client, .slice N n nc, .int .i64 (c.at_), .int .i64 (c.turn), .int .u64 c.seq, .bool true, .int .i64 (c.kind), .string c.key, .slice D m dc, .int .i64 (c.waited), .int .i64 c.retry, .int .i64 c.limit]) ∧ Hid (Blk w' (bx + 1) 38 ms)) (S := fun _ => True) 12 15 (by kernel_rfl) rfl ⟨⟨Lib.hid X1.out.drew, Lib.hid Y1.out.drew⟩, trivial⟩ (fun wd hwd hH => ?_)
    have DD := Lib.hid (show Below w1.heap.size w1 wd from by rw [hwd]; exact (Below.refl _ _).drew)
    clear hwd
    have ED := Lib.hid (EB.out.later DD.out)
    have GD := Lib.hid (GB.out.later DD.out)
    have Z1 := Lib.hid (Z1.out.below DD.out Z1.out.lt)
    have Z2 := Lib.hid (Z2.out.below DD.out Z2.out.lt)
    have HSD := Lib.hid (Nat.le_trans HS1.out DD.out.size)
    refine wpAnyT_stay 0 rfl (by kernel_rfl) (fun _ _ _ h => h) (yields_load_blk rfl 40 (.tmp 2) rfl bx 40 #[.int .u64 c.client, .slice N n nc, .int .i64 (c.at_), .int .i64 (c.turn), .int .u64 c.seq, .bool true, .int .i64 (c.kind), .string c.key, .slice D m dc, .int .i64 (c.waited), .int .i64 c.retry, .int .i64 c.limit] _ rfl (fun w' hw' => hw'.1.out) Try.underlying40 rfl Try.sizeC) ⟨hH.1, fun _ => hH.2⟩ ?_
    try simp only [Act.put, List.setIfInBounds_toArray, List.set_cons_zero, List.set_cons_succ]
    refine wpAnyT_stay 2 (v := ?_) rfl (by kernel_rfl) (fun _ _ _ h => h) (Or.inl ⟨by rfl, ?_⟩) ⟨hH.1, fun _ => hH.2⟩ ?_
    rotate_left
    · (intro wx hx; go_simp <;> with_reducible rfl)
    try simp only [Act.put, List.setIfInBounds_toArray, List.set_cons_zero, List.set_cons_succ]
    refine wpAnyT_stay 3 (v := ?_) rfl (by kernel_rfl) (fun _ _ _ h => h) (Or.inl ⟨by rfl, ?_⟩) ⟨hH.1, fun _ => hH.2⟩ ?_
    rotate_left
    · (intro wx hx; have hq := (hx.2.out.cell 25).trans HM25.out; clear hx; go_simp <;> with_reducible rfl)
    try simp only [Act.put, List.setIfInBounds_toArray, List.set_cons_zero, List.set_cons_succ]
    refine wpAnyT_stay 4 (v := ?_) rfl (by kernel_rfl) (fun _ _ _ h => h) (Or.inl ⟨by rfl, ?_⟩) ⟨hH.1, fun _ => hH.2⟩ ?_
    rotate_left
    · (intro wx hx; go_simp <;> with_reducible rfl)
    try simp only [Act.put, List.setIfInBounds_toArray, List.set_cons_zero, List.set_cons_succ]
    refine wpAnyT_stay 5 (v := ?_) rfl (by kernel_rfl) (fun _ _ _ h => h) (Or.inl ⟨by rfl, ?_⟩) ⟨hH.1, fun _ => hH.2⟩ ?_
    rotate_left
    · (intro wx hx; have hq := (hx.2.out.cell 20).trans HM20.out; clear hx; go_simp <;> with_reducible rfl)
    try simp only [Act.put, List.setIfInBounds_toArray, List.set_cons_zero, List.set_cons_succ]
    refine wpAnyT_stay 8 (v := ?_) rfl (by kernel_rfl) (fun _ _ _ h => h) (Or.inl ⟨by rfl, ?_⟩) ⟨hH.1, fun _ => hH.2⟩ ?_
    rotate_left
    · (intro wx hx; go_simp <;> with_reducible rfl)
    try simp only [Act.put, List.setIfInBounds_toArray, List.set_cons_zero, List.set_cons_succ]
    refine wpAnyT_stay 9 (v := ?_) rfl (by kernel_rfl) (fun _ _ _ h => h) (Or.inl ⟨by rfl, ?_⟩) ⟨hH.1, fun _ => hH.2⟩ ?_
    rotate_left
    · (intro wx hx; have hq := (hx.2.out.cell 26).trans HM26.out; clear hx; go_simp <;> with_reducible rfl)
    try simp only [Act.put, List.setIfInBounds_toArray, List.set_cons_zero, List.set_cons_succ]
    have BB := Lib.hid (Below.refl wd.heap.size wd)
    obtain ⟨ti, ti1, ti2, ti3, ti4⟩ := info_parts Try.infoT
    refine wpAnyT_two 1 7 rfl rfl (by kernel_rfl) (fun K hK => ?_) (fun K hK => ?_)
    · skip
      go_simp
      (go_at_call 36; refine (ranswered_any ({ c with opn := true }) n N nc m D dc _).mono ?_; rintro e w3 ⟨rfl, hb0⟩; have hb := Lib.hid hb0; clear hb0)
      refine hK.out _ _ ⟨⟨Lib.hid (hH.1.1.out.below hb.out hH.1.1.out.lt), Lib.hid (hH.1.2.out.below hb.out hH.1.2.out.lt)⟩, trivial⟩ (fun hH2 => ?_)
      clear hK K
      (have ED := Lib.hid (ED.out.later hb.out); have GD := Lib.hid (GD.out.later hb.out); have Z1 := Lib.hid (Z1.out.below hb.out Z1.out.lt); have Z2 := Lib.hid (Z2.out.below hb.out Z2.out.lt); have BB := Lib.hid (bel_trans BB.out hb.out); clear hb)
      try simp only [Act.put, List.setIfInBounds_toArray, List.set_cons_zero, List.set_cons_succ]
      refine wpAnyT_two 6 7 rfl rfl (by kernel_rfl) (fun K hK => ?_) (fun K hK => ?_)
      · skip
        go_simp
        (go_at_call 33; refine (copy_bytes E em ec (data.map bv) _ ED oneb (by omega)).mono ?_; rintro e w4 ⟨E4, ec4, rfl, p1, p2, p3, hb0⟩; have hb := Lib.hid hb0; have HO4 := Lib.hid (own_base p3 (BB.out.size)); clear hb0 p3)
        refine hK.out _ _ ⟨⟨Lib.hid (hH2.1.1.out.below hb.out hH2.1.1.out.lt), Lib.hid (hH2.1.2.out.below hb.out hH2.1.2.out.lt)⟩, trivial⟩ (fun hH3 => ?_)
        clear hK K
        (have ED := Lib.hid (ED.out.later hb.out); have GD := Lib.hid (GD.out.later hb.out); have Z1 := Lib.hid (Z1.out.below hb.out Z1.out.lt); have Z2 := Lib.hid (Z2.out.below hb.out Z2.out.lt); have BB := Lib.hid (bel_trans BB.out hb.out); clear hb)
        try simp only [Act.put, List.setIfInBounds_toArray, List.set_cons_zero, List.set_cons_succ]
        refine wpAnyT_one 7 rfl (by kernel_rfl) (fun K hK => ?_)
        refine step_build_none ?_ ?_ ?_
        · rfl
        · rfl
        have hb := Lib.hid ((Below.refl w4.heap.size w4).alloc (Nat.le_refl _) (.cells #[] 9))
        refine hK.out _ _ ⟨⟨Lib.hid (hH3.1.1.out.below hb.out hH3.1.1.out.lt), Lib.hid (hH3.1.2.out.below hb.out hH3.1.2.out.lt)⟩, trivial⟩ (fun hHq => ?_)
        clear hK K
        obtain ⟨q, hq, OQ⟩ : ∃ q, w4.heap.size = q ∧ Hid ((w4.alloc (.cells #[] 9)).ownsRow wd.heap.size 9 1 (.slice (some ⟨q, 0, none⟩) 0 0) 0 []) := ⟨_, rfl, Lib.hid (own_base (own_none w4) (BB.out.size))⟩
        rw [hq]
        clear hq
        (have ED := Lib.hid (ED.out.later hb.out); have GD := Lib.hid (GD.out.later hb.out); have Z1 := Lib.hid (Z1.out.below hb.out Z1.out.lt); have Z2 := Lib.hid (Z2.out.below hb.out Z2.out.lt); have BB := Lib.hid (bel_trans BB.out hb.out); have HO4 := Lib.hid (own_below HO4.out hb.out); clear hb)
        obtain ⟨wq, hwq⟩ : ∃ wq, w4.alloc (.cells #[] 9) = wq := ⟨_, rfl⟩
        rw [hwq] at OQ BB ED GD Z1 Z2 hHq HO4 ⊢
        clear hwq
        try simp only [Act.put, List.setIfInBounds_toArray, List.set_cons_zero, List.set_cons_succ]
        refine wpAnyT_one 10 rfl (by kernel_rfl) (fun K hK => ?_)
        refine step_append_any wq rfl (.tmp 108) (.tmp 110) 36 ?_ wd.heap.size 9 ti _ 1 16 Try.underlying36 ti1 ti2 ti3 ti4 ?_ ?_ (.slice (some ⟨q, 0, none⟩) 0 0) 0 [] ?_ OQ.out wq.heap.size G gm gc names ?_ GD.out onet.out ?_ ?_ BB.out.size ?_
        · rfl
        · rfl
        · decide
        · rfl
        · rfl
        · have := hgm; unfold maxLen; omega
        · omega
        intro v5 w5 ho5 hg5 hv5
        have hb := Lib.hid (show Below wd.heap.size wd w5 from bel_grown_own BB.out BB.out.size OQ.out hg5)
        have hq5 : ∀ k, k < wd.heap.size → some k ≠ (Value.slice (some ⟨q, 0, none⟩) 0 0).ownBlock := fun k hk e => by have := (OQ.out.lt k e.symm).1; omega
        have hO4' : w5.ownsRow wd.heap.size 5 1 (.slice E4 em ec4) em (data.map bv) := HO4.out.kept hg5 (own_apart_types HO4.out OQ.out)
        rw [Nat.zero_add, List.nil_append] at ho5
        obtain ⟨G5, gc5, rfl, r1, r2⟩ := own_slice ho5
        have HO4 := Lib.hid hO4'
        have HO5 := Lib.hid ho5
        refine hK.out _ _ ⟨⟨Lib.hid (hHq.1.1.out.grown hg5 (hq5 _ (Nat.lt_of_lt_of_le (show bx < bx + 1 + 1 + 1 + 1 by omega) HSD.out))), Lib.hid (hHq.1.2.out.grown hg5 (hq5 _ (Nat.lt_of_lt_of_le (show bx + 1 < bx + 1 + 1 + 1 + 1 by omega) HSD.out)))⟩, trivial⟩ (fun hH4 => ?_)
        clear hK K
        have Z1 := Lib.hid (Z1.out.grown hg5 (hq5 _ (Nat.lt_of_lt_of_le (show bx + 1 + 1 < bx + 1 + 1 + 1 + 1 by omega) HSD.out)))
        have Z2 := Lib.hid (Z2.out.grown hg5 (hq5 _ (Nat.lt_of_lt_of_le (show bx + 1 + 1 + 1 < bx + 1 + 1 + 1 + 1 by omega) HSD.out)))
        have BB := hb
        clear hq5 hO4' ho5 hg5 hv5 hb
        try simp only [Act.put]
        refine wpAnyT_stay 11 (v := .agg #[.int .i64 code, .slice E4 em ec4, .slice G5 gm gc5]) rfl (by kernel_rfl) (fun _ _ _ h => h) (Or.inl ⟨by rfl, ?_⟩) ⟨hH4.1, fun _ => hH4.2⟩ ?_
        · (intro wx hx; go_simp <;> with_reducible rfl)
        try simp only [Act.put, List.setIfInBounds_toArray, List.set_cons_zero, List.set_cons_succ]
        refine wpAnyT_one 12 rfl (by kernel_rfl) (fun K hK => ?_)
        refine step_store_blk rfl 40 (.tmp 4) (.tmp 102) rfl (bx + 1 + 1) 40 #[.int .u64 0, .slice none 0 0, .int .i64 0, .int .i64 0, .int .u64 0, .bool false, .int .i64 0, .string ⟨#[]⟩, .slice none 0 0, .int .i64 0, .int .i64 0, .int .i64 0] (({ c with opn := true } : Cal).closed.cs n N nc 0 none 0) ?_ ?_ ?_ ?_ ?_ ?_ ?_
        · rfl
        · rfl
        · exact Z1.out
        · rfl
        · exact Try.sizeC
        · rfl
        intro w6 hB6 hO6
        refine hK.out _ _ ⟨⟨Lib.hid (hO6.out.blk hH4.1.1.out (by omega)), Lib.hid (hO6.out.blk hH4.1.2.out (by omega))⟩, trivial⟩ (fun hH5 => ?_)
        clear hK K
        try simp only [Act.put]
        refine wpAnyT_stay 13 (v := ?_) rfl (by kernel_rfl) (fun _ _ _ h => h) (Or.inl ⟨by rfl, ?_⟩) ⟨hH5.1, fun _ => hH5.2⟩ ?_
        rotate_left
        · (intro wx hx; go_simp <;> with_reducible rfl)
        try simp only [Act.put, List.setIfInBounds_toArray, List.set_cons_zero, List.set_cons_succ]
        refine wpAnyT_one 14 rfl (by kernel_rfl) (fun K hK => ?_)
        refine step_store_blk rfl 47 (.tmp 6) (.tmp 112) rfl (bx + 1 + 1 + 1) 47 (ansZ 0) #[.int .i64 code, .slice E4 em ec4, .slice G5 gm gc5] ?_ ?_ ?_ ?_ ?_ ?_ ?_
        · rfl
        · rfl
        · exact hO6.out.blk Z2.out (by omega)
        · rfl
        · exact Try.sizeA
        · rfl
        intro w7 hB7 hO7
        refine hK.out _ _ ⟨⟨Lib.hid (hO7.out.blk hH5.1.1.out (by omega)), Lib.hid (hO7.out.blk hH5.1.2.out (by omega))⟩, trivial⟩ (fun hH6 => ?_)
        clear hK K
        try simp only [Act.put]
        refine wpAnyT_done (by kernel_rfl) ?_ _
        have hbel : Below bx w w7 := (((by have := HA1.out; rwa [hbx] at this : Below bx w w1).trans ((DD.out.trans (BB.out.mono DD.out.size)).mono (by have := HS1.out; omega))).trans (hO6.out.below (by omega))).trans (hO7.out.below (by omega))
        have he7 := hO7.out.own (hO6.out.own HO4.out (own_up HO4.out (by have := HSD.out; omega))) (own_up HO4.out (by have := HSD.out; omega))
        have hg7 := hO7.out.own (hO6.out.own HO5.out (own_up HO5.out (by have := HSD.out; omega))) (own_up HO5.out (by have := HSD.out; omega))
        have HF := Lib.hid (And.intro hbel (And.intro (own_base he7 (base' := bx) (by have := HSD.out; omega)) (own_base hg7 (base' := bx) (by have := HSD.out; omega))))
        clear hbel he7 hg7
        go_wp2
        exact bodyPost_ret (v := .tuple #[.agg (({ c with opn := true } : Cal).closed.cs n N nc 0 none 0), .slice none 0 0, .agg #[.int .i64 code, .slice E4 em ec4, .slice G5 gm gc5]]) (res_ctc Try.results17 rfl rfl rfl (load_blk (hO7.out.blk hB6.out (by omega)) Try.underlying40 rfl Try.sizeC) (load_blk hB7.out Try.underlying47 rfl Try.sizeA)) rfl ⟨E4, ec4, G5, gc5, rfl, by rw [hbx]; exact HF.out.1, p1, p2, by rw [hbx]; exact HF.out.2.1, r1, r2, by rw [hbx]; exact HF.out.2.2⟩
      · skip
        refine step_build_none ?_ ?_ ?_
        · rfl
        · rfl
        have hb := Lib.hid ((Below.refl w3.heap.size w3).alloc (Nat.le_refl _) (.cells #[] 9))
        refine hK.out _ _ ⟨⟨Lib.hid (hH2.1.1.out.below hb.out hH2.1.1.out.lt), Lib.hid (hH2.1.2.out.below hb.out hH2.1.2.out.lt)⟩, trivial⟩ (fun hH3 => ?_)
        clear hK K
        obtain ⟨q, hq, OQ⟩ : ∃ q, w3.heap.size = q ∧ Hid ((w3.alloc (.cells #[] 9)).ownsRow wd.heap.size 9 1 (.slice (some ⟨q, 0, none⟩) 0 0) 0 []) := ⟨_, rfl, Lib.hid (own_base (own_none w3) (BB.out.size))⟩
        rw [hq]
        clear hq
        (have ED := Lib.hid (ED.out.later hb.out); have GD := Lib.hid (GD.out.later hb.out); have Z1 := Lib.hid (Z1.out.below hb.out Z1.out.lt); have Z2 := Lib.hid (Z2.out.below hb.out Z2.out.lt); have BB := Lib.hid (bel_trans BB.out hb.out); clear hb)
        obtain ⟨wq, hwq⟩ : ∃ wq, w3.alloc (.cells #[] 9) = wq := ⟨_, rfl⟩
        rw [hwq] at OQ BB ED GD Z1 Z2 hH3 ⊢
        clear hwq
        try simp only [Act.put, List.setIfInBounds_toArray, List.set_cons_zero, List.set_cons_succ]
        refine wpAnyT_one 6 rfl (by kernel_rfl) (fun K hK => ?_)
        go_simp
        (go_at_call 33; refine (copy_bytes E em ec (data.map bv) _ ED oneb (by omega)).mono ?_; rintro e w4 ⟨E4, ec4, rfl, p1, p2, p3, hb0⟩; have hb := Lib.hid hb0; have HO4 := Lib.hid (own_base p3 (BB.out.size)); clear hb0 p3)
        refine hK.out _ _ ⟨⟨Lib.hid (hH3.1.1.out.below hb.out hH3.1.1.out.lt), Lib.hid (hH3.1.2.out.below hb.out hH3.1.2.out.lt)⟩, trivial⟩ (fun hHq => ?_)
        clear hK K
        (have ED := Lib.hid (ED.out.later hb.out); have GD := Lib.hid (GD.out.later hb.out); have Z1 := Lib.hid (Z1.out.below hb.out Z1.out.lt); have Z2 := Lib.hid (Z2.out.below hb.out Z2.out.lt); have BB := Lib.hid (bel_trans BB.out hb.out); have OQ := Lib.hid (own_below OQ.out hb.out); clear hb)
        try simp only [Act.put, List.setIfInBounds_toArray, List.set_cons_zero, List.set_cons_succ]
        refine wpAnyT_one 10 rfl (by kernel_rfl) (fun K hK => ?_)
        refine step_append_any w4 rfl (.tmp 108) (.tmp 110) 36 ?_ wd.heap.size 9 ti _ 1 16 Try.underlying36 ti1 ti2 ti3 ti4 ?_ ?_ (.slice (some ⟨q, 0, none⟩) 0 0) 0 [] ?_ OQ.out w4.heap.size G gm gc names ?_ GD.out onet.out ?_ ?_ BB.out.size ?_
        · rfl
        · rfl
        · decide
        · rfl
        · rfl
        · have := hgm; unfold maxLen; omega
        · omega
        intro v5 w5 ho5 hg5 hv5
        have hb := Lib.hid (show Below wd.heap.size wd w5 from bel_grown_own BB.out BB.out.size OQ.out hg5)
        have hq5 : ∀ k, k < wd.heap.size → some k ≠ (Value.slice (some ⟨q, 0, none⟩) 0 0).ownBlock := fun k hk e => by have := (OQ.out.lt k e.symm).1; omega
        have hO4' : w5.ownsRow wd.heap.size 5 1 (.slice E4 em ec4) em (data.map bv) := HO4.out.kept hg5 (own_apart_types HO4.out OQ.out)
        rw [Nat.zero_add, List.nil_append] at ho5
        obtain ⟨G5, gc5, rfl, r1, r2⟩ := own_slice ho5
        have HO4 := Lib.hid hO4'
        have HO5 := Lib.hid ho5
        refine hK.out _ _ ⟨⟨Lib.hid (hHq.1.1.out.grown hg5 (hq5 _ (Nat.lt_of_lt_of_le (show bx < bx + 1 + 1 + 1 + 1 by omega) HSD.out))), Lib.hid (hHq.1.2.out.grown hg5 (hq5 _ (Nat.lt_of_lt_of_le (show bx + 1 < bx + 1 + 1 + 1 + 1 by omega) HSD.out)))⟩, trivial⟩ (fun hH4 => ?_)
        clear hK K
        have Z1 := Lib.hid (Z1.out.grown hg5 (hq5 _ (Nat.lt_of_lt_of_le (show bx + 1 + 1 < bx + 1 + 1 + 1 + 1 by omega) HSD.out)))
        have Z2 := Lib.hid (Z2.out.grown hg5 (hq5 _ (Nat.lt_of_lt_of_le (show bx + 1 + 1 + 1 < bx + 1 + 1 + 1 + 1 by omega) HSD.out)))
        have BB := hb
        clear hq5 hO4' ho5 hg5 hv5 hb
        try simp only [Act.put]
        refine wpAnyT_stay 11 (v := .agg #[.int .i64 code, .slice E4 em ec4, .slice G5 gm gc5]) rfl (by kernel_rfl) (fun _ _ _ h => h) (Or.inl ⟨by rfl, ?_⟩) ⟨hH4.1, fun _ => hH4.2⟩ ?_
        · (intro wx hx; go_simp <;> with_reducible rfl)
        try simp only [Act.put, List.setIfInBounds_toArray, List.set_cons_zero, List.set_cons_succ]
        refine wpAnyT_one 12 rfl (by kernel_rfl) (fun K hK => ?_)
        refine step_store_blk rfl 40 (.tmp 4) (.tmp 102) rfl (bx + 1 + 1) 40 #[.int .u64 0, .slice none 0 0, .int .i64 0, .int .i64 0, .int .u64 0, .bool false, .int .i64 0, .string ⟨#[]⟩, .slice none 0 0, .int .i64 0, .int .i64 0, .int .i64 0] (({ c with opn := true } : Cal).closed.cs n N nc 0 none 0) ?_ ?_ ?_ ?_ ?_ ?_ ?_
        · rfl
        · rfl
        · exact Z1.out
        · rfl
        · exact Try.sizeC
        · rfl
        intro w6 hB6 hO6
        refine hK.out _ _ ⟨⟨Lib.hid (hO6.out.blk hH4.1.1.out (by omega)), Lib.hid (hO6.out.blk hH4.1.2.out (by omega))⟩, trivial⟩ (fun hH5 => ?_)
        clear hK K
        try simp only [Act.put]
        refine wpAnyT_stay 13 (v := ?_) rfl (by kernel_rfl) (fun _ _ _ h => h) (Or.inl ⟨by rfl, ?_⟩) ⟨hH5.1, fun _ => hH5.2⟩ ?_
        rotate_left
        · (intro wx hx; go_simp <;> with_reducible rfl)
        try simp only [Act.put, List.setIfInBounds_toArray, List.set_cons_zero, List.set_cons_succ]
        refine wpAnyT_one 14 rfl (by kernel_rfl) (fun K hK => ?_)
        refine step_store_blk rfl 47 (.tmp 6) (.tmp 112) rfl (bx + 1 + 1 + 1) 47 (ansZ 0) #[.int .i64 code, .slice E4 em ec4, .slice G5 gm gc5] ?_ ?_ ?_ ?_ ?_ ?_ ?_
        · rfl
        · rfl
        · exact hO6.out.blk Z2.out (by omega)
        · rfl
        · exact Try.sizeA
        · rfl
        intro w7 hB7 hO7
        refine hK.out _ _ ⟨⟨Lib.hid (hO7.out.blk hH5.1.1.out (by omega)), Lib.hid (hO7.out.blk hH5.1.2.out (by omega))⟩, trivial⟩ (fun hH6 => ?_)
        clear hK K
        try simp only [Act.put]
        refine wpAnyT_done (by kernel_rfl) ?_ _
        have hbel : Below bx w w7 := (((by have := HA1.out; rwa [hbx] at this : Below bx w w1).trans ((DD.out.trans (BB.out.mono DD.out.size)).mono (by have := HS1.out; omega))).trans (hO6.out.below (by omega))).trans (hO7.out.below (by omega))
        have he7 := hO7.out.own (hO6.out.own HO4.out (own_up HO4.out (by have := HSD.out; omega))) (own_up HO4.out (by have := HSD.out; omega))
        have hg7 := hO7.out.own (hO6.out.own HO5.out (own_up HO5.out (by have := HSD.out; omega))) (own_up HO5.out (by have := HSD.out; omega))
        have HF := Lib.hid (And.intro hbel (And.intro (own_base he7 (base' := bx) (by have := HSD.out; omega)) (own_base hg7 (base' := bx) (by have := HSD.out; omega))))
        clear hbel he7 hg7
        go_wp2
        exact bodyPost_ret (v := .tuple #[.agg (({ c with opn := true } : Cal).closed.cs n N nc 0 none 0), .slice none 0 0, .agg #[.int .i64 code, .slice E4 em ec4, .slice G5 gm gc5]]) (res_ctc Try.results17 rfl rfl rfl (load_blk (hO7.out.blk hB6.out (by omega)) Try.underlying40 rfl Try.sizeC) (load_blk hB7.out Try.underlying47 rfl Try.sizeA)) rfl ⟨E4, ec4, G5, gc5, rfl, by rw [hbx]; exact HF.out.1, p1, p2, by rw [hbx]; exact HF.out.2.1, r1, r2, by rw [hbx]; exact HF.out.2.2⟩
    · skip
      refine step_build_none ?_ ?_ ?_
      · rfl
      · rfl
      have hb := Lib.hid ((Below.refl wd.heap.size wd).alloc (Nat.le_refl _) (.cells #[] 9))
      refine hK.out _ _ ⟨⟨Lib.hid (hH.1.1.out.below hb.out hH.1.1.out.lt), Lib.hid (hH.1.2.out.below hb.out hH.1.2.out.lt)⟩, trivial⟩ (fun hH2 => ?_)
      clear hK K
      obtain ⟨q, hq, OQ⟩ : ∃ q, wd.heap.size = q ∧ Hid ((wd.alloc (.cells #[] 9)).ownsRow wd.heap.size 9 1 (.slice (some ⟨q, 0, none⟩) 0 0) 0 []) := ⟨_, rfl, Lib.hid (own_base (own_none wd) (BB.out.size))⟩
      rw [hq]
      clear hq
      (have ED := Lib.hid (ED.out.later hb.out); have GD := Lib.hid (GD.out.later hb.out); have Z1 := Lib.hid (Z1.out.below hb.out Z1.out.lt); have Z2 := Lib.hid (Z2.out.below hb.out Z2.out.lt); have BB := Lib.hid (bel_trans BB.out hb.out); clear hb)
      obtain ⟨wq, hwq⟩ : ∃ wq, wd.alloc (.cells #[] 9) = wq := ⟨_, rfl⟩
      rw [hwq] at OQ BB ED GD Z1 Z2 hH2 ⊢
      clear hwq
      try simp only [Act.put, List.setIfInBounds_toArray, List.set_cons_zero, List.set_cons_succ]
      refine wpAnyT_one 1 rfl (by kernel_rfl) (fun K hK => ?_)
      go_simp
      (go_at_call 36; refine (ranswered_any ({ c with opn := true }) n N nc m D dc _).mono ?_; rintro e w3 ⟨rfl, hb0⟩; have hb := Lib.hid hb0; clear hb0)
      refine hK.out _ _ ⟨⟨Lib.hid (hH2.1.1.out.below hb.out hH2.1.1.out.lt), Lib.hid (hH2.1.2.out.below hb.out hH2.1.2.out.lt)⟩, trivial⟩ (fun hH3 => ?_)
      clear hK K
      (have ED := Lib.hid (ED.out.later hb.out); have GD := Lib.hid (GD.out.later hb.out); have Z1 := Lib.hid (Z1.out.below hb.out Z1.out.lt); have Z2 := Lib.hid (Z2.out.below hb.out Z2.out.lt); have BB := Lib.hid (bel_trans BB.out hb.out); have OQ := Lib.hid (own_below OQ.out hb.out); clear hb)
      try simp only [Act.put, List.setIfInBounds_toArray, List.set_cons_zero, List.set_cons_succ]
      refine wpAnyT_one 6 rfl (by kernel_rfl) (fun K hK => ?_)
      go_simp
      (go_at_call 33; refine (copy_bytes E em ec (data.map bv) _ ED oneb (by omega)).mono ?_; rintro e w4 ⟨E4, ec4, rfl, p1, p2, p3, hb0⟩; have hb := Lib.hid hb0; have HO4 := Lib.hid (own_base p3 (BB.out.size)); clear hb0 p3)
      refine hK.out _ _ ⟨⟨Lib.hid (hH3.1.1.out.below hb.out hH3.1.1.out.lt), Lib.hid (hH3.1.2.out.below hb.out hH3.1.2.out.lt)⟩, trivial⟩ (fun hHq => ?_)
      clear hK K
      (have ED := Lib.hid (ED.out.later hb.out); have GD := Lib.hid (GD.out.later hb.out); have Z1 := Lib.hid (Z1.out.below hb.out Z1.out.lt); have Z2 := Lib.hid (Z2.out.below hb.out Z2.out.lt); have BB := Lib.hid (bel_trans BB.out hb.out); have OQ := Lib.hid (own_below OQ.out hb.out); clear hb)
      try simp only [Act.put, List.setIfInBounds_toArray, List.set_cons_zero, List.set_cons_succ]
      refine wpAnyT_one 10 rfl (by kernel_rfl) (fun K hK => ?_)
      refine step_append_any w4 rfl (.tmp 108) (.tmp 110) 36 ?_ wd.heap.size 9 ti _ 1 16 Try.underlying36 ti1 ti2 ti3 ti4 ?_ ?_ (.slice (some ⟨q, 0, none⟩) 0 0) 0 [] ?_ OQ.out w4.heap.size G gm gc names ?_ GD.out onet.out ?_ ?_ BB.out.size ?_
      · rfl
      · rfl
      · decide
      · rfl
      · rfl
      · have := hgm; unfold maxLen; omega
      · omega
      intro v5 w5 ho5 hg5 hv5
      have hb := Lib.hid (show Below wd.heap.size wd w5 from bel_grown_own BB.out BB.out.size OQ.out hg5)
      have hq5 : ∀ k, k < wd.heap.size → some k ≠ (Value.slice (some ⟨q, 0, none⟩) 0 0).ownBlock := fun k hk e => by have := (OQ.out.lt k e.symm).1; omega
      have hO4' : w5.ownsRow wd.heap.size 5 1 (.slice E4 em ec4) em (data.map bv) := HO4.out.kept hg5 (own_apart_types HO4.out OQ.out)
      rw [Nat.zero_add, List.nil_append] at ho5
      obtain ⟨G5, gc5, rfl, r1, r2⟩ := own_slice ho5
      have HO4 := Lib.hid hO4'
      have HO5 := Lib.hid ho5
      refine hK.out _ _ ⟨⟨Lib.hid (hHq.1.1.out.grown hg5 (hq5 _ (Nat.lt_of_lt_of_le (show bx < bx + 1 + 1 + 1 + 1 by omega) HSD.out))), Lib.hid (hHq.1.2.out.grown hg5 (hq5 _ (Nat.lt_of_lt_of_le (show bx + 1 < bx + 1 + 1 + 1 + 1 by omega) HSD.out)))⟩, trivial⟩ (fun hH4 => ?_)
      clear hK K
      have Z1 := Lib.hid (Z1.out.grown hg5 (hq5 _ (Nat.lt_of_lt_of_le (show bx + 1 + 1 < bx + 1 + 1 + 1 + 1 by omega) HSD.out)))
      have Z2 := Lib.hid (Z2.out.grown hg5 (hq5 _ (Nat.lt_of_lt_of_le (show bx + 1 + 1 + 1 < bx + 1 + 1 + 1 + 1 by omega) HSD.out)))
      have BB := hb
      clear hq5 hO4' ho5 hg5 hv5 hb
      try simp only [Act.put]
      refine wpAnyT_stay 11 (v := .agg #[.int .i64 code, .slice E4 em ec4, .slice G5 gm gc5]) rfl (by kernel_rfl) (fun _ _ _ h => h) (Or.inl ⟨by rfl, ?_⟩) ⟨hH4.1, fun _ => hH4.2⟩ ?_
      · (intro wx hx; go_simp <;> with_reducible rfl)
      try simp only [Act.put, List.setIfInBounds_toArray, List.set_cons_zero, List.set_cons_succ]
      refine wpAnyT_one 12 rfl (by kernel_rfl) (fun K hK => ?_)
      refine step_store_blk rfl 40 (.tmp 4) (.tmp 102) rfl (bx + 1 + 1) 40 #[.int .u64 0, .slice none 0 0, .int .i64 0, .int .i64 0, .int .u64 0, .bool false, .int .i64 0, .string ⟨#[]⟩, .slice none 0 0, .int .i64 0, .int .i64 0, .int .i64 0] (({ c with opn := true } : Cal).closed.cs n N nc 0 none 0) ?_ ?_ ?_ ?_ ?_ ?_ ?_
      · rfl
      · rfl
      · exact Z1.out
      · rfl
      · exact Try.sizeC
      · rfl
      intro w6 hB6 hO6
      refine hK.out _ _ ⟨⟨Lib.hid (hO6.out.blk hH4.1.1.out (by omega)), Lib.hid (hO6.out.blk hH4.1.2.out (by omega))⟩, trivial⟩ (fun hH5 => ?_)
      clear hK K
      try simp only [Act.put]
      refine wpAnyT_stay 13 (v := ?_) rfl (by kernel_rfl) (fun _ _ _ h => h) (Or.inl ⟨by rfl, ?_⟩) ⟨hH5.1, fun _ => hH5.2⟩ ?_
      rotate_left
      · (intro wx hx; go_simp <;> with_reducible rfl)
      try simp only [Act.put, List.setIfInBounds_toArray, List.set_cons_zero, List.set_cons_succ]
      refine wpAnyT_one 14 rfl (by kernel_rfl) (fun K hK => ?_)
      refine step_store_blk rfl 47 (.tmp 6) (.tmp 112) rfl (bx + 1 + 1 + 1) 47 (ansZ 0) #[.int .i64 code, .slice E4 em ec4, .slice G5 gm gc5] ?_ ?_ ?_ ?_ ?_ ?_ ?_
      · rfl
      · rfl
      · exact hO6.out.blk Z2.out (by omega)
      · rfl
      · exact Try.sizeA
      · rfl
      intro w7 hB7 hO7
      refine hK.out _ _ ⟨⟨Lib.hid (hO7.out.blk hH5.1.1.out (by omega)), Lib.hid (hO7.out.blk hH5.1.2.out (by omega))⟩, trivial⟩ (fun hH6 => ?_)
      clear hK K
      try simp only [Act.put]
      refine wpAnyT_done (by kernel_rfl) ?_ _
      have hbel : Below bx w w7 := (((by have := HA1.out; rwa [hbx] at this : Below bx w w1).trans ((DD.out.trans (BB.out.mono DD.out.size)).mono (by have := HS1.out; omega))).trans (hO6.out.below (by omega))).trans (hO7.out.below (by omega))
      have he7 := hO7.out.own (hO6.out.own HO4.out (own_up HO4.out (by have := HSD.out; omega))) (own_up HO4.out (by have := HSD.out; omega))
      have hg7 := hO7.out.own (hO6.out.own HO5.out (own_up HO5.out (by have := HSD.out; omega))) (own_up HO5.out (by have := HSD.out; omega))
      have HF := Lib.hid (And.intro hbel (And.intro (own_base he7 (base' := bx) (by have := HSD.out; omega)) (own_base hg7 (base' := bx) (by have := HSD.out; omega))))
      clear hbel he7 hg7
      go_wp2
      exact bodyPost_ret (v := .tuple #[.agg (({ c with opn := true } : Cal).closed.cs n N nc 0 none 0), .slice none 0 0, .agg #[.int .i64 code, .slice E4 em ec4, .slice G5 gm gc5]]) (res_ctc Try.results17 rfl rfl rfl (load_blk (hO7.out.blk hB6.out (by omega)) Try.underlying40 rfl Try.sizeC) (load_blk hB7.out Try.underlying47 rfl Try.sizeA)) rfl ⟨E4, ec4, G5, gc5, rfl, by rw [hbx]; exact HF.out.1, p1, p2, by rw [hbx]; exact HF.out.2.1, r1, r2, by rw [hbx]; exact HF.out.2.2⟩
end Go.Proofs.Ytmamdnikjfmenaa
