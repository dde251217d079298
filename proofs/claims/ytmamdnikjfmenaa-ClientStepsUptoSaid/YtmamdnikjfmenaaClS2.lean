/-
  The reference's Got: what turns nothing.
-/
import Derived.Test.YtmamdnikjfmenaaClS1
import Derived.Test.YtmamdnikjfmenaaClW8
namespace Go.Proofs.Ytmamdnikjfmenaa
open Go.RowKit
set_option linter.unusedVariables false
set_option maxRecDepth 100000 in
set_option maxHeartbeats 1000000 in
theorem rgot_may (c : Cal) (n : Nat) (N : Option Addr) (nc m : Nat) (D : Option Addr) (dc : Nat) (ms : Array Value) (kind : Int) (client seq : Nat) (code : Int) (w : World) (h : Hid (CalIn w c n N nc m D dc)) (hm : ¬ May c) (hms : ms.size = 27) (hm0 : ms[0]? = some (.int .i64 kind)) (hm21 : ms[21]? = some (.int .u64 client)) (hm22 : ms[22]? = some (.int .u64 seq)) (hm25 : ms[25]? = some (.int .i64 code))  :
    Calls Try.prog 17 #[.agg (c.cs n N nc m D dc), .agg ms] w (RetQuiet c n N nc m D dc 0 w) := by
  have HM := Lib.hid hm
  clear hm
  unfold Cal.cs
  have hb0 := ((((Below.refl w.heap.size w).alloc (Nat.le_refl _) (.cells #[.int .u64 c.client, .slice N n nc, .int .i64 (c.at_), .int .i64 (c.turn), .int .u64 c.seq, .bool c.opn, .int .i64 (c.kind), .string c.key, .slice D m dc, .int .i64 (c.waited), .int .i64 c.retry, .int .i64 c.limit] 40)).alloc (by simp) (.cells ms 38)).alloc (by simp; omega) (.cells #[.int .u64 0, .slice none 0 0, .int .i64 0, .int .i64 0, .int .u64 0, .bool false, .int .i64 0, .string ⟨#[]⟩, .slice none 0 0, .int .i64 0, .int .i64 0, .int .i64 0] 40)).alloc (by simp; omega) (.cells (ansZ 0) 47)
  have b0 := (((Blk.new w 40 #[.int .u64 c.client, .slice N n nc, .int .i64 (c.at_), .int .i64 (c.turn), .int .u64 c.seq, .bool c.opn, .int .i64 (c.kind), .string c.key, .slice D m dc, .int .i64 (c.waited), .int .i64 c.retry, .int .i64 c.limit]).alloc (.cells ms 38)).alloc (.cells #[.int .u64 0, .slice none 0 0, .int .i64 0, .int .i64 0, .int .u64 0, .bool false, .int .i64 0, .string ⟨#[]⟩, .slice none 0 0, .int .i64 0, .int .i64 0, .int .i64 0] 40)).alloc (.cells (ansZ 0) 47)
  have b3 := ((blk_second w (.cells #[.int .u64 c.client, .slice N n nc, .int .i64 (c.at_), .int .i64 (c.turn), .int .u64 c.seq, .bool c.opn, .int .i64 (c.kind), .string c.key, .slice D m dc, .int .i64 (c.waited), .int .i64 c.retry, .int .i64 c.limit] 40) 38 ms).alloc (.cells #[.int .u64 0, .slice none 0 0, .int .i64 0, .int .i64 0, .int .u64 0, .bool false, .int .i64 0, .string ⟨#[]⟩, .slice none 0 0, .int .i64 0, .int .i64 0, .int .i64 0] 40)).alloc (.cells (ansZ 0) 47)
  have b1 := (blk_second (w.alloc (.cells #[.int .u64 c.client, .slice N n nc, .int .i64 (c.at_), .int .i64 (c.turn), .int .u64 c.seq, .bool c.opn, .int .i64 (c.kind), .string c.key, .slice D m dc, .int .i64 (c.waited), .int .i64 c.retry, .int .i64 c.limit] 40)) (.cells ms 38) 40 #[.int .u64 0, .slice none 0 0, .int .i64 0, .int .i64 0, .int .u64 0, .bool false, .int .i64 0, .string ⟨#[]⟩, .slice none 0 0, .int .i64 0, .int .i64 0, .int .i64 0]).alloc (.cells (ansZ 0) 47)
  have b2 := blk_second ((w.alloc (.cells #[.int .u64 c.client, .slice N n nc, .int .i64 (c.at_), .int .i64 (c.turn), .int .u64 c.seq, .bool c.opn, .int .i64 (c.kind), .string c.key, .slice D m dc, .int .i64 (c.waited), .int .i64 c.retry, .int .i64 c.limit] 40)).alloc (.cells ms 38)) (.cells #[.int .u64 0, .slice none 0 0, .int .i64 0, .int .i64 0, .int .u64 0, .bool false, .int .i64 0, .string ⟨#[]⟩, .slice none 0 0, .int .i64 0, .int .i64 0, .int .i64 0] 40) 47 (ansZ 0)
  simp only [World.size_alloc] at b1 b2
  obtain ⟨wa, hwa⟩ : ∃ wa, (((w.alloc (.cells #[.int .u64 c.client, .slice N n nc, .int .i64 (c.at_), .int .i64 (c.turn), .int .u64 c.seq, .bool c.opn, .int .i64 (c.kind), .string c.key, .slice D m dc, .int .i64 (c.waited), .int .i64 c.retry, .int .i64 c.limit] 40)).alloc (.cells ms 38)).alloc (.cells #[.int .u64 0, .slice none 0 0, .int .i64 0, .int .i64 0, .int .u64 0, .bool false, .int .i64 0, .string ⟨#[]⟩, .slice none 0 0, .int .i64 0, .int .i64 0, .int .i64 0] 40)).alloc (.cells (ansZ 0) 47) = wa := ⟨_, rfl⟩
  have hsz : wa.heap.size = w.heap.size + 1 + 1 + 1 + 1 := by rw [← hwa]; simp
  rw [hwa] at hb0 b0 b1 b2 b3
  obtain ⟨bx, hbx⟩ : ∃ bx, w.heap.size = bx := ⟨_, rfl⟩
  have HBX := Lib.hid hbx
  rw [hbx] at b0 b1 b2 b3 hsz
  have HS := Lib.hid hsz
  have HA := Lib.hid hb0
  have C1 := Lib.hid (h.out.later hb0)
  have Z1 := Lib.hid b1
  have Z2 := Lib.hid b2
  have X0 := Lib.hid b0
  have Y0 := Lib.hid b3
  have HM0 := Lib.hid hm0
  have HM21 := Lib.hid hm21
  have HM22 := Lib.hid hm22
  have HM25 := Lib.hid hm25
  have HMS := Lib.hid hms
  have x0 := b0.cell 0
  have x1 := b0.cell 1
  have x2 := b0.cell 2
  have x3 := b0.cell 3
  have x4 := b0.cell 4
  have x5 := b0.cell 5
  have x6 := b0.cell 6
  have x7 := b0.cell 7
  have x8 := b0.cell 8
  have x9 := b0.cell 9
  have x10 := b0.cell 10
  have x11 := b0.cell 11
  simp only [List.getElem?_toArray, List.getElem?_cons_zero, List.getElem?_cons_succ] at x0 x1 x2 x3 x4 x5 x6 x7 x8 x9 x10 x11
  clear hsz hb0 b0 b1 b2 b3 hm0 hm21 hm22 hm25 hms
  unfold ansZ at hwa
  go_enter Try.func17, Try.ntmps17
  go_wp2_with (first
    | (go_at_call 32; clear hwa; refine (rmay_no (c := c) (n := n) (N := N) (nc := nc) (m := m) (D := D) (dc := dc) C1 HM.out).mono ?_; rintro e w1 ⟨rfl, hb⟩; have HA1 := Lib.hid (HA.out.trans (hb.mono HA.out.size)); have Z1 := Lib.hid (Z1.out.below hb Z1.out.lt); have Z2 := Lib.hid (Z2.out.below hb Z2.out.lt); have x := X0.out.below hb X0.out.lt; have y := Y0.out.below hb Y0.out.lt; have c0 := x.cell 0; have c1 := x.cell 1; have c2 := x.cell 2; have c3 := x.cell 3; have c4 := x.cell 4; have c5 := x.cell 5; have c6 := x.cell 6; have c7 := x.cell 7; have c8 := x.cell 8; have c9 := x.cell 9; have c10 := x.cell 10; have c11 := x.cell 11; have fx := x.frozen; have y0 := (y.cell 0).trans HM0.out; have y21 := (y.cell 21).trans HM21.out; have y22 := (y.cell 22).trans HM22.out; have y25 := (y.cell 25).trans HM25.out; have Y1 := Lib.hid y; have X1 := Lib.hid x; have HS1 := Lib.hid (show bx + 1 + 1 + 1 + 1 ≤ w1.heap.size from by have := hb.size; have := HS.out; omega); clear x y hb x0 x1 x2 x3 x4 x5 x6 x7 x8 x9 x10 x11; simp only [List.getElem?_toArray, List.getElem?_cons_zero, List.getElem?_cons_succ] at c0 c1 c2 c3 c4 c5 c6 c7 c8 c9 c10 c11)
    | (refine wpl_store_blk rfl 40 (.tmp 4) (.tmp 36) rfl (bx + 1 + 1) 40 #[.int .u64 0, .slice none 0 0, .int .i64 0, .int .i64 0, .int .u64 0, .bool false, .int .i64 0, .string ⟨#[]⟩, .slice none 0 0, .int .i64 0, .int .i64 0, .int .i64 0] (#[.int .u64 c.client, .slice N n nc, .int .i64 (c.at_), .int .i64 (c.turn), .int .u64 c.seq, .bool c.opn, .int .i64 (c.kind), .string c.key, .slice D m dc, .int .i64 (c.waited), .int .i64 c.retry, .int .i64 c.limit]) rfl rfl Z1.out rfl Try.sizeC rfl ?_; intro w2 hB2 hO2)
    | (refine wpl_store_blk rfl 47 (.tmp 6) (.tmp 37) rfl (bx + 1 + 1 + 1) 47 (ansZ 0) (ansZ 0) rfl rfl (hO2.out.blk Z2.out (by omega)) rfl Try.sizeA rfl ?_; intro w3 hB3 hO3))
  have hbel : Below bx w w3 := ((by have := HA1.out; rwa [hbx] at this : Below bx w w1).trans (hO2.out.below (by omega))).trans (hO3.out.below (by omega))
  have hcal : CalIn w3 c n N nc m D dc := ⟨h.out.nl, (h.out.nr.below (by rwa [← hbx] at hbel)).here (by omega), h.out.n1, h.out.n2, h.out.dl, (h.out.dr.below (by rwa [← hbx] at hbel)).here (by omega), h.out.d1, h.out.d2, h.out.db⟩
  exact bodyPost_ret (v := .tuple #[.agg #[.int .u64 c.client, .slice N n nc, .int .i64 (c.at_), .int .i64 (c.turn), .int .u64 c.seq, .bool c.opn, .int .i64 (c.kind), .string c.key, .slice D m dc, .int .i64 (c.waited), .int .i64 c.retry, .int .i64 c.limit], .slice none 0 0, .agg (ansZ 0)]) (res_ctc Try.results17 rfl rfl rfl (load_blk (hO3.out.blk hB2.out (by omega)) Try.underlying40 rfl Try.sizeC) (load_blk hB3.out Try.underlying47 rfl Try.sizeA)) rfl ⟨rfl, by rw [hbx]; exact hbel⟩
set_option maxRecDepth 100000 in
set_option maxHeartbeats 1000000 in
theorem rgot_shut (c : Cal) (n : Nat) (N : Option Addr) (nc m : Nat) (D : Option Addr) (dc : Nat) (ms : Array Value) (kind : Int) (client seq : Nat) (code : Int) (w : World) (h : Hid (CalIn w c n N nc m D dc)) (hm : May c) (hms : ms.size = 27) (hm0 : ms[0]? = some (.int .i64 kind)) (hm21 : ms[21]? = some (.int .u64 client)) (hm22 : ms[22]? = some (.int .u64 seq)) (hm25 : ms[25]? = some (.int .i64 code)) (ho : c.opn = false)  :
    Calls Try.prog 17 #[.agg (c.cs n N nc m D dc), .agg ms] w (RetQuiet c n N nc m D dc 0 w) := by
  have HM := Lib.hid (may_opn hm false)
  have hcl := hm.c2
  clear hm
  unfold Cal.cs
  rw [ho]
  have HO := Lib.hid ho
  clear ho
  have hb0 := ((((Below.refl w.heap.size w).alloc (Nat.le_refl _) (.cells #[.int .u64 c.client, .slice N n nc, .int .i64 (c.at_), .int .i64 (c.turn), .int .u64 c.seq, .bool false, .int .i64 (c.kind), .string c.key, .slice D m dc, .int .i64 (c.waited), .int .i64 c.retry, .int .i64 c.limit] 40)).alloc (by simp) (.cells ms 38)).alloc (by simp; omega) (.cells #[.int .u64 0, .slice none 0 0, .int .i64 0, .int .i64 0, .int .u64 0, .bool false, .int .i64 0, .string ⟨#[]⟩, .slice none 0 0, .int .i64 0, .int .i64 0, .int .i64 0] 40)).alloc (by simp; omega) (.cells (ansZ 0) 47)
  have b0 := (((Blk.new w 40 #[.int .u64 c.client, .slice N n nc, .int .i64 (c.at_), .int .i64 (c.turn), .int .u64 c.seq, .bool false, .int .i64 (c.kind), .string c.key, .slice D m dc, .int .i64 (c.waited), .int .i64 c.retry, .int .i64 c.limit]).alloc (.cells ms 38)).alloc (.cells #[.int .u64 0, .slice none 0 0, .int .i64 0, .int .i64 0, .int .u64 0, .bool false, .int .i64 0, .string ⟨#[]⟩, .slice none 0 0, .int .i64 0, .int .i64 0, .int .i64 0] 40)).alloc (.cells (ansZ 0) 47)
  have b3 := ((blk_second w (.cells #[.int .u64 c.client, .slice N n nc, .int .i64 (c.at_), .int .i64 (c.turn), .int .u64 c.seq, .bool false, .int .i64 (c.kind), .string c.key, .slice D m dc, .int .i64 (c.waited), .int .i64 c.retry, .int .i64 c.limit] 40) 38 ms).alloc (.cells #[.int .u64 0, .slice none 0 0, .int .i64 0, .int .i64 0, .int .u64 0, .bool false, .int .i64 0, .string ⟨#[]⟩, .slice none 0 0, .int .i64 0, .int .i64 0, .int .i64 0] 40)).alloc (.cells (ansZ 0) 47)
  have b1 := (blk_second (w.alloc (.cells #[.int .u64 c.client, .slice N n nc, .int .i64 (c.at_), .int .i64 (c.turn), .int .u64 c.seq, .bool false, .int .i64 (c.kind), .string c.key, .slice D m dc, .int .i64 (c.waited), .int .i64 c.retry, .int .i64 c.limit] 40)) (.cells ms 38) 40 #[.int .u64 0, .slice none 0 0, .int .i64 0, .int .i64 0, .int .u64 0, .bool false, .int .i64 0, .string ⟨#[]⟩, .slice none 0 0, .int .i64 0, .int .i64 0, .int .i64 0]).alloc (.cells (ansZ 0) 47)
  have b2 := blk_second ((w.alloc (.cells #[.int .u64 c.client, .slice N n nc, .int .i64 (c.at_), .int .i64 (c.turn), .int .u64 c.seq, .bool false, .int .i64 (c.kind), .string c.key, .slice D m dc, .int .i64 (c.waited), .int .i64 c.retry, .int .i64 c.limit] 40)).alloc (.cells ms 38)) (.cells #[.int .u64 0, .slice none 0 0, .int .i64 0, .int .i64 0, .int .u64 0, .bool false, .int .i64 0, .string ⟨#[]⟩, .slice none 0 0, .int .i64 0, .int .i64 0, .int .i64 0] 40) 47 (ansZ 0)
  simp only [World.size_alloc] at b1 b2
  obtain ⟨wa, hwa⟩ : ∃ wa, (((w.alloc (.cells #[.int .u64 c.client, .slice N n nc, .int .i64 (c.at_), .int .i64 (c.turn), .int .u64 c.seq, .bool false, .int .i64 (c.kind), .string c.key, .slice D m dc, .int .i64 (c.waited), .int .i64 c.retry, .int .i64 c.limit] 40)).alloc (.cells ms 38)).alloc (.cells #[.int .u64 0, .slice none 0 0, .int .i64 0, .int .i64 0, .int .u64 0, .bool false, .int .i64 0, .string ⟨#[]⟩, .slice none 0 0, .int .i64 0, .int .i64 0, .int .i64 0] 40)).alloc (.cells (ansZ 0) 47) = wa := ⟨_, rfl⟩
  have hsz : wa.heap.size = w.heap.size + 1 + 1 + 1 + 1 := by rw [← hwa]; simp
  rw [hwa] at hb0 b0 b1 b2 b3
  obtain ⟨bx, hbx⟩ : ∃ bx, w.heap.size = bx := ⟨_, rfl⟩
  have HBX := Lib.hid hbx
  rw [hbx] at b0 b1 b2 b3 hsz
  have HS := Lib.hid hsz
  have HA := Lib.hid hb0
  have C1 := Lib.hid ((calin_opn h.out false).later hb0)
  have Z1 := Lib.hid b1
  have Z2 := Lib.hid b2
  have X0 := Lib.hid b0
  have Y0 := Lib.hid b3
  have HM0 := Lib.hid hm0
  have HM21 := Lib.hid hm21
  have HM22 := Lib.hid hm22
  have HM25 := Lib.hid hm25
  have HMS := Lib.hid hms
  have x0 := b0.cell 0
  have x1 := b0.cell 1
  have x2 := b0.cell 2
  have x3 := b0.cell 3
  have x4 := b0.cell 4
  have x5 := b0.cell 5
  have x6 := b0.cell 6
  have x7 := b0.cell 7
  have x8 := b0.cell 8
  have x9 := b0.cell 9
  have x10 := b0.cell 10
  have x11 := b0.cell 11
  simp only [List.getElem?_toArray, List.getElem?_cons_zero, List.getElem?_cons_succ] at x0 x1 x2 x3 x4 x5 x6 x7 x8 x9 x10 x11
  clear hsz hb0 b0 b1 b2 b3 hm0 hm21 hm22 hm25 hms
  unfold ansZ at hwa
  go_enter Try.func17, Try.ntmps17
  go_wp2_with (first
    | (go_at_call 32; clear hwa; refine (rmay_yes (c := { c with opn := false }) (n := n) (N := N) (nc := nc) (m := m) (D := D) (dc := dc) C1 HM.out).mono ?_; rintro e w1 ⟨rfl, hb⟩; have HA1 := Lib.hid (HA.out.trans (hb.mono HA.out.size)); have Z1 := Lib.hid (Z1.out.below hb Z1.out.lt); have Z2 := Lib.hid (Z2.out.below hb Z2.out.lt); have x := X0.out.below hb X0.out.lt; have y := Y0.out.below hb Y0.out.lt; have c0 := x.cell 0; have c1 := x.cell 1; have c2 := x.cell 2; have c3 := x.cell 3; have c4 := x.cell 4; have c5 := x.cell 5; have c6 := x.cell 6; have c7 := x.cell 7; have c8 := x.cell 8; have c9 := x.cell 9; have c10 := x.cell 10; have c11 := x.cell 11; have fx := x.frozen; have y0 := (y.cell 0).trans HM0.out; have y21 := (y.cell 21).trans HM21.out; have y22 := (y.cell 22).trans HM22.out; have y25 := (y.cell 25).trans HM25.out; have Y1 := Lib.hid y; have X1 := Lib.hid x; have HS1 := Lib.hid (show bx + 1 + 1 + 1 + 1 ≤ w1.heap.size from by have := hb.size; have := HS.out; omega); clear x y hb x0 x1 x2 x3 x4 x5 x6 x7 x8 x9 x10 x11; simp only [List.getElem?_toArray, List.getElem?_cons_zero, List.getElem?_cons_succ] at c0 c1 c2 c3 c4 c5 c6 c7 c8 c9 c10 c11)
    | (refine wpl_store_blk rfl 40 (.tmp 4) (.tmp 36) rfl (bx + 1 + 1) 40 #[.int .u64 0, .slice none 0 0, .int .i64 0, .int .i64 0, .int .u64 0, .bool false, .int .i64 0, .string ⟨#[]⟩, .slice none 0 0, .int .i64 0, .int .i64 0, .int .i64 0] (#[.int .u64 c.client, .slice N n nc, .int .i64 (c.at_), .int .i64 (c.turn), .int .u64 c.seq, .bool false, .int .i64 (c.kind), .string c.key, .slice D m dc, .int .i64 (c.waited), .int .i64 c.retry, .int .i64 c.limit]) rfl rfl Z1.out rfl Try.sizeC rfl ?_; intro w2 hB2 hO2)
    | (refine wpl_store_blk rfl 47 (.tmp 6) (.tmp 37) rfl (bx + 1 + 1 + 1) 47 (ansZ 0) (ansZ 0) rfl rfl (hO2.out.blk Z2.out (by omega)) rfl Try.sizeA rfl ?_; intro w3 hB3 hO3))
  have hbel : Below bx w w3 := ((by have := HA1.out; rwa [hbx] at this : Below bx w w1).trans (hO2.out.below (by omega))).trans (hO3.out.below (by omega))
  have hcal : CalIn w3 c n N nc m D dc := ⟨h.out.nl, (h.out.nr.below (by rwa [← hbx] at hbel)).here (by omega), h.out.n1, h.out.n2, h.out.dl, (h.out.dr.below (by rwa [← hbx] at hbel)).here (by omega), h.out.d1, h.out.d2, h.out.db⟩
  exact bodyPost_ret (v := .tuple #[.agg #[.int .u64 c.client, .slice N n nc, .int .i64 (c.at_), .int .i64 (c.turn), .int .u64 c.seq, .bool false, .int .i64 (c.kind), .string c.key, .slice D m dc, .int .i64 (c.waited), .int .i64 c.retry, .int .i64 c.limit], .slice none 0 0, .agg (ansZ 0)]) (res_ctc Try.results17 rfl rfl rfl (load_blk (hO3.out.blk hB2.out (by omega)) Try.underlying40 rfl Try.sizeC) (load_blk hB3.out Try.underlying47 rfl Try.sizeA)) rfl ⟨by unfold Cal.cs; rw [HO.out], by rw [hbx]; exact hbel⟩
set_option maxRecDepth 100000 in
set_option maxHeartbeats 1000000 in
theorem rgot_kind (c : Cal) (n : Nat) (N : Option Addr) (nc m : Nat) (D : Option Addr) (dc : Nat) (ms : Array Value) (kind : Int) (client seq : Nat) (code : Int) (w : World) (h : Hid (CalIn w c n N nc m D dc)) (hm : May c) (hms : ms.size = 27) (hm0 : ms[0]? = some (.int .i64 kind)) (hm21 : ms[21]? = some (.int .u64 client)) (hm22 : ms[22]? = some (.int .u64 seq)) (hm25 : ms[25]? = some (.int .i64 code)) (ho : c.opn = true) (hk : kind ≠ 17) :
    Calls Try.prog 17 #[.agg (c.cs n N nc m D dc), .agg ms] w (RetQuiet c n N nc m D dc 0 w) := by
  have e1 : (kind != 17) = true := by simp; omega
  have e2 : (kind == 17) = false := by simp; omega
  have HM := Lib.hid (may_opn hm true)
  have hcl := hm.c2
  clear hm
  unfold Cal.cs
  rw [ho]
  have HO := Lib.hid ho
  clear ho
  have hb0 := ((((Below.refl w.heap.size w).alloc (Nat.le_refl _) (.cells #[.int .u64 c.client, .slice N n nc, .int .i64 (c.at_), .int .i64 (c.turn), .int .u64 c.seq, .bool true, .int .i64 (c.kind), .string c.key, .slice D m dc, .int .i64 (c.waited), .int .i64 c.retry, .int .i64 c.limit] 40)).alloc (by simp) (.cells ms 38)).alloc (by simp; omega) (.cells #[.int .u64 0, .slice none 0 0, .int .i64 0, .int .i64 0, .int .u64 0, .bool false, .int .i64 0, .string ⟨#[]⟩, .slice none 0 0, .int .i64 0, .int .i64 0, .int .i64 0] 40)).alloc (by simp; omega) (.cells (ansZ 0) 47)
  have b0 := (((Blk.new w 40 #[.int .u64 c.client, .slice N n nc, .int .i64 (c.at_), .int .i64 (c.turn), .int .u64 c.seq, .bool true, .int .i64 (c.kind), .string c.key, .slice D m dc, .int .i64 (c.waited), .int .i64 c.retry, .int .i64 c.limit]).alloc (.cells ms 38)).alloc (.cells #[.int .u64 0, .slice none 0 0, .int .i64 0, .int .i64 0, .int .u64 0, .bool false, .int .i64 0, .string ⟨#[]⟩, .slice none 0 0, .int .i64 0, .int .i64 0, .int .i64 0] 40)).alloc (.cells (ansZ 0) 47)
  have b3 := ((blk_second w (.cells #[.int .u64 c.client, .slice N n nc, .int .i64 (c.at_), .int .i64 (c.turn), .int .u64 c.seq, .bool true, .int .i64 (c.kind), .string c.key, .slice D m dc, .int .i64 (c.waited), .int .i64 c.retry, .int .i64 c.limit] 40) 38 ms).alloc (.cells #[.int .u64 0, .slice none 0 0, .int .i64 0, .int .i64 0, .int .u64 0, .bool false, .int .i64 0, .string ⟨#[]⟩, .slice none 0 0, .int .i64 0, .int .i64 0, .int .i64 0] 40)).alloc (.cells (ansZ 0) 47)
  have b1 := (blk_second (w.alloc (.cells #[.int .u64 c.client, .slice N n nc, .int .i64 (c.at_), .int .i64 (c.turn), .int .u64 c.seq, .bool true, .int .i64 (c.kind), .string c.key, .slice D m dc, .int .i64 (c.waited), .int .i64 c.retry, .int .i64 c.limit] 40)) (.cells ms 38) 40 #[.int .u64 0, .slice none 0 0, .int .i64 0, .int .i64 0, .int .u64 0, .bool false, .int .i64 0, .string ⟨#[]⟩, .slice none 0 0, .int .i64 0, .int .i64 0, .int .i64 0]).alloc (.cells (ansZ 0) 47)
  have b2 := blk_second ((w.alloc (.cells #[.int .u64 c.client, .slice N n nc, .int .i64 (c.at_), .int .i64 (c.turn), .int .u64 c.seq, .bool true, .int .i64 (c.kind), .string c.key, .slice D m dc, .int .i64 (c.waited), .int .i64 c.retry, .int .i64 c.limit] 40)).alloc (.cells ms 38)) (.cells #[.int .u64 0, .slice none 0 0, .int .i64 0, .int .i64 0, .int .u64 0, .bool false, .int .i64 0, .string ⟨#[]⟩, .slice none 0 0, .int .i64 0, .int .i64 0, .int .i64 0] 40) 47 (ansZ 0)
  simp only [World.size_alloc] at b1 b2
  obtain ⟨wa, hwa⟩ : ∃ wa, (((w.alloc (.cells #[.int .u64 c.client, .slice N n nc, .int .i64 (c.at_), .int .i64 (c.turn), .int .u64 c.seq, .bool true, .int .i64 (c.kind), .string c.key, .slice D m dc, .int .i64 (c.waited), .int .i64 c.retry, .int .i64 c.limit] 40)).alloc (.cells ms 38)).alloc (.cells #[.int .u64 0, .slice none 0 0, .int .i64 0, .int .i64 0, .int .u64 0, .bool false, .int .i64 0, .string ⟨#[]⟩, .slice none 0 0, .int .i64 0, .int .i64 0, .int .i64 0] 40)).alloc (.cells (ansZ 0) 47) = wa := ⟨_, rfl⟩
  have hsz : wa.heap.size = w.heap.size + 1 + 1 + 1 + 1 := by rw [← hwa]; simp
  rw [hwa] at hb0 b0 b1 b2 b3
  obtain ⟨bx, hbx⟩ : ∃ bx, w.heap.size = bx := ⟨_, rfl⟩
  have HBX := Lib.hid hbx
  rw [hbx] at b0 b1 b2 b3 hsz
  have HS := Lib.hid hsz
  have HA := Lib.hid hb0
  have C1 := Lib.hid ((calin_opn h.out true).later hb0)
  have Z1 := Lib.hid b1
  have Z2 := Lib.hid b2
  have X0 := Lib.hid b0
  have Y0 := Lib.hid b3
  have HM0 := Lib.hid hm0
  have HM21 := Lib.hid hm21
  have HM22 := Lib.hid hm22
  have HM25 := Lib.hid hm25
  have HMS := Lib.hid hms
  have x0 := b0.cell 0
  have x1 := b0.cell 1
  have x2 := b0.cell 2
  have x3 := b0.cell 3
  have x4 := b0.cell 4
  have x5 := b0.cell 5
  have x6 := b0.cell 6
  have x7 := b0.cell 7
  have x8 := b0.cell 8
  have x9 := b0.cell 9
  have x10 := b0.cell 10
  have x11 := b0.cell 11
  simp only [List.getElem?_toArray, List.getElem?_cons_zero, List.getElem?_cons_succ] at x0 x1 x2 x3 x4 x5 x6 x7 x8 x9 x10 x11
  clear hsz hb0 b0 b1 b2 b3 hm0 hm21 hm22 hm25 hms
  unfold ansZ at hwa
  go_enter Try.func17, Try.ntmps17
  go_wp2_with (first
    | (go_at_call 32; clear hwa; refine (rmay_yes (c := { c with opn := true }) (n := n) (N := N) (nc := nc) (m := m) (D := D) (dc := dc) C1 HM.out).mono ?_; rintro e w1 ⟨rfl, hb⟩; have HA1 := Lib.hid (HA.out.trans (hb.mono HA.out.size)); have Z1 := Lib.hid (Z1.out.below hb Z1.out.lt); have Z2 := Lib.hid (Z2.out.below hb Z2.out.lt); have x := X0.out.below hb X0.out.lt; have y := Y0.out.below hb Y0.out.lt; have c0 := x.cell 0; have c1 := x.cell 1; have c2 := x.cell 2; have c3 := x.cell 3; have c4 := x.cell 4; have c5 := x.cell 5; have c6 := x.cell 6; have c7 := x.cell 7; have c8 := x.cell 8; have c9 := x.cell 9; have c10 := x.cell 10; have c11 := x.cell 11; have fx := x.frozen; have y0 := (y.cell 0).trans HM0.out; have y21 := (y.cell 21).trans HM21.out; have y22 := (y.cell 22).trans HM22.out; have y25 := (y.cell 25).trans HM25.out; have Y1 := Lib.hid y; have X1 := Lib.hid x; have HS1 := Lib.hid (show bx + 1 + 1 + 1 + 1 ≤ w1.heap.size from by have := hb.size; have := HS.out; omega); clear x y hb x0 x1 x2 x3 x4 x5 x6 x7 x8 x9 x10 x11; simp only [List.getElem?_toArray, List.getElem?_cons_zero, List.getElem?_cons_succ] at c0 c1 c2 c3 c4 c5 c6 c7 c8 c9 c10 c11)
    | (refine wpl_store_blk rfl 40 (.tmp 4) (.tmp 36) rfl (bx + 1 + 1) 40 #[.int .u64 0, .slice none 0 0, .int .i64 0, .int .i64 0, .int .u64 0, .bool false, .int .i64 0, .string ⟨#[]⟩, .slice none 0 0, .int .i64 0, .int .i64 0, .int .i64 0] (#[.int .u64 c.client, .slice N n nc, .int .i64 (c.at_), .int .i64 (c.turn), .int .u64 c.seq, .bool true, .int .i64 (c.kind), .string c.key, .slice D m dc, .int .i64 (c.waited), .int .i64 c.retry, .int .i64 c.limit]) rfl rfl Z1.out rfl Try.sizeC rfl ?_; intro w2 hB2 hO2)
    | (refine wpl_store_blk rfl 47 (.tmp 6) (.tmp 37) rfl (bx + 1 + 1 + 1) 47 (ansZ 0) (ansZ 0) rfl rfl (hO2.out.blk Z2.out (by omega)) rfl Try.sizeA rfl ?_; intro w3 hB3 hO3))
  have hbel : Below bx w w3 := ((by have := HA1.out; rwa [hbx] at this : Below bx w w1).trans (hO2.out.below (by omega))).trans (hO3.out.below (by omega))
  have hcal : CalIn w3 c n N nc m D dc := ⟨h.out.nl, (h.out.nr.below (by rwa [← hbx] at hbel)).here (by omega), h.out.n1, h.out.n2, h.out.dl, (h.out.dr.below (by rwa [← hbx] at hbel)).here (by omega), h.out.d1, h.out.d2, h.out.db⟩
  exact bodyPost_ret (v := .tuple #[.agg #[.int .u64 c.client, .slice N n nc, .int .i64 (c.at_), .int .i64 (c.turn), .int .u64 c.seq, .bool true, .int .i64 (c.kind), .string c.key, .slice D m dc, .int .i64 (c.waited), .int .i64 c.retry, .int .i64 c.limit], .slice none 0 0, .agg (ansZ 0)]) (res_ctc Try.results17 rfl rfl rfl (load_blk (hO3.out.blk hB2.out (by omega)) Try.underlying40 rfl Try.sizeC) (load_blk hB3.out Try.underlying47 rfl Try.sizeA)) rfl ⟨by unfold Cal.cs; rw [HO.out], by rw [hbx]; exact hbel⟩
set_option maxRecDepth 100000 in
set_option maxHeartbeats 1000000 in
theorem rgot_client (c : Cal) (n : Nat) (N : Option Addr) (nc m : Nat) (D : Option Addr) (dc : Nat) (ms : Array Value) (kind : Int) (client seq : Nat) (code : Int) (w : World) (h : Hid (CalIn w c n N nc m D dc)) (hm : May c) (hms : ms.size = 27) (hm0 : ms[0]? = some (.int .i64 kind)) (hm21 : ms[21]? = some (.int .u64 client)) (hm22 : ms[22]? = some (.int .u64 seq)) (hm25 : ms[25]? = some (.int .i64 code)) (ho : c.opn = true) (hk : kind = 17) (hc : client ≠ c.client) :
    Calls Try.prog 17 #[.agg (c.cs n N nc m D dc), .agg ms] w (RetQuiet c n N nc m D dc 0 w) := by
  subst hk
  have e1 : ((client : Int) != (c.client : Int)) = true := by simp; omega
  have e2 : ((client : Int) == (c.client : Int)) = false := by simp; omega
  have HM := Lib.hid (may_opn hm true)
  have hcl := hm.c2
  clear hm
  unfold Cal.cs
  rw [ho]
  have HO := Lib.hid ho
  clear ho
  have hb0 := ((((Below.refl w.heap.size w).alloc (Nat.le_refl _) (.cells #[.int .u64 c.client, .slice N n nc, .int .i64 (c.at_), .int .i64 (c.turn), .int .u64 c.seq, .bool true, .int .i64 (c.kind), .string c.key, .slice D m dc, .int .i64 (c.waited), .int .i64 c.retry, .int .i64 c.limit] 40)).alloc (by simp) (.cells ms 38)).alloc (by simp; omega) (.cells #[.int .u64 0, .slice none 0 0, .int .i64 0, .int .i64 0, .int .u64 0, .bool false, .int .i64 0, .string ⟨#[]⟩, .slice none 0 0, .int .i64 0, .int .i64 0, .int .i64 0] 40)).alloc (by simp; omega) (.cells (ansZ 0) 47)
  have b0 := (((Blk.new w 40 #[.int .u64 c.client, .slice N n nc, .int .i64 (c.at_), .int .i64 (c.turn), .int .u64 c.seq, .bool true, .int .i64 (c.kind), .string c.key, .slice D m dc, .int .i64 (c.waited), .int .i64 c.retry, .int .i64 c.limit]).alloc (.cells ms 38)).alloc (.cells #[.int .u64 0, .slice none 0 0, .int .i64 0, .int .i64 0, .int .u64 0, .bool false, .int .i64 0, .string ⟨#[]⟩, .slice none 0 0, .int .i64 0, .int .i64 0, .int .i64 0] 40)).alloc (.cells (ansZ 0) 47)
  have b3 := ((blk_second w (.cells #[.int .u64 c.client, .slice N n nc, .int .i64 (c.at_), .int .i64 (c.turn), .int .u64 c.seq, .bool true, .int .i64 (c.kind), .string c.key, .slice D m dc, .int .i64 (c.waited), .int .i64 c.retry, .int .i64 c.limit] 40) 38 ms).alloc (.cells #[.int .u64 0, .slice none 0 0, .int .i64 0, .int .i64 0, .int .u64 0, .bool false, .int .i64 0, .string ⟨#[]⟩, .slice none 0 0, .int .i64 0, .int .i64 0, .int .i64 0] 40)).alloc (.cells (ansZ 0) 47)
  have b1 := (blk_second (w.alloc (.cells #[.int .u64 c.client, .slice N n nc, .int .i64 (c.at_), .int .i64 (c.turn), .int .u64 c.seq, .bool true, .int .i64 (c.kind), .string c.key, .slice D m dc, .int .i64 (c.waited), .int .i64 c.retry, .int .i64 c.limit] 40)) (.cells ms 38) 40 #[.int .u64 0, .slice none 0 0, .int .i64 0, .int .i64 0, .int .u64 0, .bool false, .int .i64 0, .string ⟨#[]⟩, .slice none 0 0, .int .i64 0, .int .i64 0, .int .i64 0]).alloc (.cells (ansZ 0) 47)
  have b2 := blk_second ((w.alloc (.cells #[.int .u64 c.client, .slice N n nc, .int .i64 (c.at_), .int .i64 (c.turn), .int .u64 c.seq, .bool true, .int .i64 (c.kind), .string c.key, .slice D m dc, .int .i64 (c.waited), .int .i64 c.retry, .int .i64 c.limit] 40)).alloc (.cells ms 38)) (.cells #[.int .u64 0, .slice none 0 0, .int .i64 0, .int .i64 0, .int .u64 0, .bool false, .int .i64 0, .string ⟨#[]⟩, .slice none 0 0, .int .i64 0, .int .i64 0, .int .i64 0] 40) 47 (ansZ 0)
  simp only [World.size_alloc] at b1 b2
  obtain ⟨wa, hwa⟩ : ∃ wa, (((w.alloc (.cells #[.int .u64 c.client, .slice N n nc, .int .i64 (c.at_), .int .i64 (c.turn), .int .u64 c.seq, .bool true, .int .i64 (c.kind), .string c.key, .slice D m dc, .int .i64 (c.waited), .int .i64 c.retry, .int .i64 c.limit] 40)).alloc (.cells ms 38)).alloc (.cells #[.int .u64 0, .slice none 0 0, .int .i64 0, .int .i64 0, .int .u64 0, .bool false, .int .i64 0, .string ⟨#[]⟩, .slice none 0 0, .int .i64 0, .int .i64 0, .int .i64 0] 40)).alloc (.cells (ansZ 0) 47) = wa := ⟨_, rfl⟩
  have hsz : wa.heap.size = w.heap.size + 1 + 1 + 1 + 1 := by rw [← hwa]; simp
  rw [hwa] at hb0 b0 b1 b2 b3
  obtain ⟨bx, hbx⟩ : ∃ bx, w.heap.size = bx := ⟨_, rfl⟩
  have HBX := Lib.hid hbx
  rw [hbx] at b0 b1 b2 b3 hsz
  have HS := Lib.hid hsz
  have HA := Lib.hid hb0
  have C1 := Lib.hid ((calin_opn h.out true).later hb0)
  have Z1 := Lib.hid b1
  have Z2 := Lib.hid b2
  have X0 := Lib.hid b0
  have Y0 := Lib.hid b3
  have HM0 := Lib.hid hm0
  have HM21 := Lib.hid hm21
  have HM22 := Lib.hid hm22
  have HM25 := Lib.hid hm25
  have HMS := Lib.hid hms
  have x0 := b0.cell 0
  have x1 := b0.cell 1
  have x2 := b0.cell 2
  have x3 := b0.cell 3
  have x4 := b0.cell 4
  have x5 := b0.cell 5
  have x6 := b0.cell 6
  have x7 := b0.cell 7
  have x8 := b0.cell 8
  have x9 := b0.cell 9
  have x10 := b0.cell 10
  have x11 := b0.cell 11
  simp only [List.getElem?_toArray, List.getElem?_cons_zero, List.getElem?_cons_succ] at x0 x1 x2 x3 x4 x5 x6 x7 x8 x9 x10 x11
  clear hsz hb0 b0 b1 b2 b3 hm0 hm21 hm22 hm25 hms
  unfold ansZ at hwa
  go_enter Try.func17, Try.ntmps17
  go_wp2_with (first
    | (go_at_call 32; clear hwa; refine (rmay_yes (c := { c with opn := true }) (n := n) (N := N) (nc := nc) (m := m) (D := D) (dc := dc) C1 HM.out).mono ?_; rintro e w1 ⟨rfl, hb⟩; have HA1 := Lib.hid (HA.out.trans (hb.mono HA.out.size)); have Z1 := Lib.hid (Z1.out.below hb Z1.out.lt); have Z2 := Lib.hid (Z2.out.below hb Z2.out.lt); have x := X0.out.below hb X0.out.lt; have y := Y0.out.below hb Y0.out.lt; have c0 := x.cell 0; have c1 := x.cell 1; have c2 := x.cell 2; have c3 := x.cell 3; have c4 := x.cell 4; have c5 := x.cell 5; have c6 := x.cell 6; have c7 := x.cell 7; have c8 := x.cell 8; have c9 := x.cell 9; have c10 := x.cell 10; have c11 := x.cell 11; have fx := x.frozen; have y0 := (y.cell 0).trans HM0.out; have y21 := (y.cell 21).trans HM21.out; have y22 := (y.cell 22).trans HM22.out; have y25 := (y.cell 25).trans HM25.out; have Y1 := Lib.hid y; have X1 := Lib.hid x; have HS1 := Lib.hid (show bx + 1 + 1 + 1 + 1 ≤ w1.heap.size from by have := hb.size; have := HS.out; omega); clear x y hb x0 x1 x2 x3 x4 x5 x6 x7 x8 x9 x10 x11; simp only [List.getElem?_toArray, List.getElem?_cons_zero, List.getElem?_cons_succ] at c0 c1 c2 c3 c4 c5 c6 c7 c8 c9 c10 c11)
    | (refine wpl_store_blk rfl 40 (.tmp 4) (.tmp 36) rfl (bx + 1 + 1) 40 #[.int .u64 0, .slice none 0 0, .int .i64 0, .int .i64 0, .int .u64 0, .bool false, .int .i64 0, .string ⟨#[]⟩, .slice none 0 0, .int .i64 0, .int .i64 0, .int .i64 0] (#[.int .u64 c.client, .slice N n nc, .int .i64 (c.at_), .int .i64 (c.turn), .int .u64 c.seq, .bool true, .int .i64 (c.kind), .string c.key, .slice D m dc, .int .i64 (c.waited), .int .i64 c.retry, .int .i64 c.limit]) rfl rfl Z1.out rfl Try.sizeC rfl ?_; intro w2 hB2 hO2)
    | (refine wpl_store_blk rfl 47 (.tmp 6) (.tmp 37) rfl (bx + 1 + 1 + 1) 47 (ansZ 0) (ansZ 0) rfl rfl (hO2.out.blk Z2.out (by omega)) rfl Try.sizeA rfl ?_; intro w3 hB3 hO3))
  have hbel : Below bx w w3 := ((by have := HA1.out; rwa [hbx] at this : Below bx w w1).trans (hO2.out.below (by omega))).trans (hO3.out.below (by omega))
  have hcal : CalIn w3 c n N nc m D dc := ⟨h.out.nl, (h.out.nr.below (by rwa [← hbx] at hbel)).here (by omega), h.out.n1, h.out.n2, h.out.dl, (h.out.dr.below (by rwa [← hbx] at hbel)).here (by omega), h.out.d1, h.out.d2, h.out.db⟩
  exact bodyPost_ret (v := .tuple #[.agg #[.int .u64 c.client, .slice N n nc, .int .i64 (c.at_), .int .i64 (c.turn), .int .u64 c.seq, .bool true, .int .i64 (c.kind), .string c.key, .slice D m dc, .int .i64 (c.waited), .int .i64 c.retry, .int .i64 c.limit], .slice none 0 0, .agg (ansZ 0)]) (res_ctc Try.results17 rfl rfl rfl (load_blk (hO3.out.blk hB2.out (by omega)) Try.underlying40 rfl Try.sizeC) (load_blk hB3.out Try.underlying47 rfl Try.sizeA)) rfl ⟨by unfold Cal.cs; rw [HO.out], by rw [hbx]; exact hbel⟩
set_option maxRecDepth 100000 in
set_option maxHeartbeats 1000000 in
theorem rgot_seq (c : Cal) (n : Nat) (N : Option Addr) (nc m : Nat) (D : Option Addr) (dc : Nat) (ms : Array Value) (kind : Int) (client seq : Nat) (code : Int) (w : World) (h : Hid (CalIn w c n N nc m D dc)) (hm : May c) (hms : ms.size = 27) (hm0 : ms[0]? = some (.int .i64 kind)) (hm21 : ms[21]? = some (.int .u64 client)) (hm22 : ms[22]? = some (.int .u64 seq)) (hm25 : ms[25]? = some (.int .i64 code)) (ho : c.opn = true) (hk : kind = 17) (hc : client = c.client) (hs : seq ≠ c.seq) :
    Calls Try.prog 17 #[.agg (c.cs n N nc m D dc), .agg ms] w (RetQuiet c n N nc m D dc 0 w) := by
  subst hk
  subst hc
  have e1 : ((seq : Int) != (c.seq : Int)) = true := by simp; omega
  have e2 : ((seq : Int) == (c.seq : Int)) = false := by simp; omega
  have e3 : ((c.client : Int) != (c.client : Int)) = false := by simp
  have HM := Lib.hid (may_opn hm true)
  have hcl := hm.c2
  clear hm
  unfold Cal.cs
  rw [ho]
  have HO := Lib.hid ho
  clear ho
  have hb0 := ((((Below.refl w.heap.size w).alloc (Nat.le_refl _) (.cells #[.int .u64 c.client, .slice N n nc, .int .i64 (c.at_), .int .i64 (c.turn), .int .u64 c.seq, .bool true, .int .i64 (c.kind), .string c.key, .slice D m dc, .int .i64 (c.waited), .int .i64 c.retry, .int .i64 c.limit] 40)).alloc (by simp) (.cells ms 38)).alloc (by simp; omega) (.cells #[.int .u64 0, .slice none 0 0, .int .i64 0, .int .i64 0, .int .u64 0, .bool false, .int .i64 0, .string ⟨#[]⟩, .slice none 0 0, .int .i64 0, .int .i64 0, .int .i64 0] 40)).alloc (by simp; omega) (.cells (ansZ 0) 47)
  have b0 := (((Blk.new w 40 #[.int .u64 c.client, .slice N n nc, .int .i64 (c.at_), .int .i64 (c.turn), .int .u64 c.seq, .bool true, .int .i64 (c.kind), .string c.key, .slice D m dc, .int .i64 (c.waited), .int .i64 c.retry, .int .i64 c.limit]).alloc (.cells ms 38)).alloc (.cells #[.int .u64 0, .slice none 0 0, .int .i64 0, .int .i64 0, .int .u64 0, .bool false, .int .i64 0, .string ⟨#[]⟩, .slice none 0 0, .int .i64 0, .int .i64 0, .int .i64 0] 40)).alloc (.cells (ansZ 0) 47)
  have b3 := ((blk_second w (.cells #[.int .u64 c.client, .slice N n nc, .int .i64 (c.at_), .int .i64 (c.turn), .int .u64 c.seq, .bool true, .int .i64 (c.kind), .string c.key, .slice D m dc, .int .i64 (c.waited), .int .i64 c.retry, .int .i64 c.limit] 40) 38 ms).alloc (.cells #[.int .u64 0, .slice none 0 0, .int .i64 0, .int .i64 0, .int .u64 0, .bool false, .int .i64 0, .string ⟨#[]⟩, .slice none 0 0, .int .i64 0, .int .i64 0, .int .i64 0] 40)).alloc (.cells (ansZ 0) 47)
  have b1 := (blk_second (w.alloc (.cells #[.int .u64 c.client, .slice N n nc, .int .i64 (c.at_), .int .i64 (c.turn), .int .u64 c.seq, .bool true, .int .i64 (c.kind), .string c.key, .slice D m dc, .int .i64 (c.waited), .int .i64 c.retry, .int .i64 c.limit] 40)) (.cells ms 38) 40 #[.int .u64 0, .slice none 0 0, .int .i64 0, .int .i64 0, .int .u64 0, .bool false, .int .i64 0, .string ⟨#[]⟩, .slice none 0 0, .int .i64 0, .int .i64 0, .int .i64 0]).alloc (.cells (ansZ 0) 47)
  have b2 := blk_second ((w.alloc (.cells #[.int .u64 c.client, .slice N n nc, .int .i64 (c.at_), .int .i64 (c.turn), .int .u64 c.seq, .bool true, .int .i64 (c.kind), .string c.key, .slice D m dc, .int .i64 (c.waited), .int .i64 c.retry, .int .i64 c.limit] 40)).alloc (.cells ms 38)) (.cells #[.int .u64 0, .slice none 0 0, .int .i64 0, .int .i64 0, .int .u64 0, .bool false, .int .i64 0, .string ⟨#[]⟩, .slice none 0 0, .int .i64 0, .int .i64 0, .int .i64 0] 40) 47 (ansZ 0)
  simp only [World.size_alloc] at b1 b2
  obtain ⟨wa, hwa⟩ : ∃ wa, (((w.alloc (.cells #[.int .u64 c.client, .slice N n nc, .int .i64 (c.at_), .int .i64 (c.turn), .int .u64 c.seq, .bool true, .int .i64 (c.kind), .string c.key, .slice D m dc, .int .i64 (c.waited), .int .i64 c.retry, .int .i64 c.limit] 40)).alloc (.cells ms 38)).alloc (.cells #[.int .u64 0, .slice none 0 0, .int .i64 0, .int .i64 0, .int .u64 0, .bool false, .int .i64 0, .string ⟨#[]⟩, .slice none 0 0, .int .i64 0, .int .i64 0, .int .i64 0] 40)).alloc (.cells (ansZ 0) 47) = wa := ⟨_, rfl⟩
  have hsz : wa.heap.size = w.heap.size + 1 + 1 + 1 + 1 := by rw [← hwa]; simp
  rw [hwa] at hb0 b0 b1 b2 b3
  obtain ⟨bx, hbx⟩ : ∃ bx, w.heap.size = bx := ⟨_, rfl⟩
  have HBX := Lib.hid hbx
  rw [hbx] at b0 b1 b2 b3 hsz
  have HS := Lib.hid hsz
  have HA := Lib.hid hb0
  have C1 := Lib.hid ((calin_opn h.out true).later hb0)
  have Z1 := Lib.hid b1
  have Z2 := Lib.hid b2
  have X0 := Lib.hid b0
  have Y0 := Lib.hid b3
  have HM0 := Lib.hid hm0
  have HM21 := Lib.hid hm21
  have HM22 := Lib.hid hm22
  have HM25 := Lib.hid hm25
  have HMS := Lib.hid hms
  have x0 := b0.cell 0
  have x1 := b0.cell 1
  have x2 := b0.cell 2
  have x3 := b0.cell 3
  have x4 := b0.cell 4
  have x5 := b0.cell 5
  have x6 := b0.cell 6
  have x7 := b0.cell 7
  have x8 := b0.cell 8
  have x9 := b0.cell 9
  have x10 := b0.cell 10
  have x11 := b0.cell 11
  simp only [List.getElem?_toArray, List.getElem?_cons_zero, List.getElem?_cons_succ] at x0 x1 x2 x3 x4 x5 x6 x7 x8 x9 x10 x11
  clear hsz hb0 b0 b1 b2 b3 hm0 hm21 hm22 hm25 hms
  unfold ansZ at hwa
  go_enter Try.func17, Try.ntmps17
  go_wp2_with (first
    | (go_at_call 32; clear hwa; refine (rmay_yes (c := { c with opn := true }) (n := n) (N := N) (nc := nc) (m := m) (D := D) (dc := dc) C1 HM.out).mono ?_; rintro e w1 ⟨rfl, hb⟩; have HA1 := Lib.hid (HA.out.trans (hb.mono HA.out.size)); have Z1 := Lib.hid (Z1.out.below hb Z1.out.lt); have Z2 := Lib.hid (Z2.out.below hb Z2.out.lt); have x := X0.out.below hb X0.out.lt; have y := Y0.out.below hb Y0.out.lt; have c0 := x.cell 0; have c1 := x.cell 1; have c2 := x.cell 2; have c3 := x.cell 3; have c4 := x.cell 4; have c5 := x.cell 5; have c6 := x.cell 6; have c7 := x.cell 7; have c8 := x.cell 8; have c9 := x.cell 9; have c10 := x.cell 10; have c11 := x.cell 11; have fx := x.frozen; have y0 := (y.cell 0).trans HM0.out; have y21 := (y.cell 21).trans HM21.out; have y22 := (y.cell 22).trans HM22.out; have y25 := (y.cell 25).trans HM25.out; have Y1 := Lib.hid y; have X1 := Lib.hid x; have HS1 := Lib.hid (show bx + 1 + 1 + 1 + 1 ≤ w1.heap.size from by have := hb.size; have := HS.out; omega); clear x y hb x0 x1 x2 x3 x4 x5 x6 x7 x8 x9 x10 x11; simp only [List.getElem?_toArray, List.getElem?_cons_zero, List.getElem?_cons_succ] at c0 c1 c2 c3 c4 c5 c6 c7 c8 c9 c10 c11)
    | (refine wpl_store_blk rfl 40 (.tmp 4) (.tmp 36) rfl (bx + 1 + 1) 40 #[.int .u64 0, .slice none 0 0, .int .i64 0, .int .i64 0, .int .u64 0, .bool false, .int .i64 0, .string ⟨#[]⟩, .slice none 0 0, .int .i64 0, .int .i64 0, .int .i64 0] (#[.int .u64 c.client, .slice N n nc, .int .i64 (c.at_), .int .i64 (c.turn), .int .u64 c.seq, .bool true, .int .i64 (c.kind), .string c.key, .slice D m dc, .int .i64 (c.waited), .int .i64 c.retry, .int .i64 c.limit]) rfl rfl Z1.out rfl Try.sizeC rfl ?_; intro w2 hB2 hO2)
    | (refine wpl_store_blk rfl 47 (.tmp 6) (.tmp 37) rfl (bx + 1 + 1 + 1) 47 (ansZ 0) (ansZ 0) rfl rfl (hO2.out.blk Z2.out (by omega)) rfl Try.sizeA rfl ?_; intro w3 hB3 hO3))
  have hbel : Below bx w w3 := ((by have := HA1.out; rwa [hbx] at this : Below bx w w1).trans (hO2.out.below (by omega))).trans (hO3.out.below (by omega))
  have hcal : CalIn w3 c n N nc m D dc := ⟨h.out.nl, (h.out.nr.below (by rwa [← hbx] at hbel)).here (by omega), h.out.n1, h.out.n2, h.out.dl, (h.out.dr.below (by rwa [← hbx] at hbel)).here (by omega), h.out.d1, h.out.d2, h.out.db⟩
  exact bodyPost_ret (v := .tuple #[.agg #[.int .u64 c.client, .slice N n nc, .int .i64 (c.at_), .int .i64 (c.turn), .int .u64 c.seq, .bool true, .int .i64 (c.kind), .string c.key, .slice D m dc, .int .i64 (c.waited), .int .i64 c.retry, .int .i64 c.limit], .slice none 0 0, .agg (ansZ 0)]) (res_ctc Try.results17 rfl rfl rfl (load_blk (hO3.out.blk hB2.out (by omega)) Try.underlying40 rfl Try.sizeC) (load_blk hB3.out Try.underlying47 rfl Try.sizeA)) rfl ⟨by unfold Cal.cs; rw [HO.out], by rw [hbx]; exact hbel⟩
set_option maxRecDepth 100000 in
set_option maxHeartbeats 1000000 in
theorem rgot_codea (c : Cal) (n : Nat) (N : Option Addr) (nc m : Nat) (D : Option Addr) (dc : Nat) (ms : Array Value) (kind : Int) (client seq : Nat) (code : Int) (w : World) (h : Hid (CalIn w c n N nc m D dc)) (hm : May c) (hms : ms.size = 27) (hm0 : ms[0]? = some (.int .i64 kind)) (hm21 : ms[21]? = some (.int .u64 client)) (hm22 : ms[22]? = some (.int .u64 seq)) (hm25 : ms[25]? = some (.int .i64 code)) (ho : c.opn = true) (hk : kind = 17) (hc : client = c.client) (hs : seq = c.seq) (q1 : code ≠ 1) (q2 : code ≠ 2) (q3 : code ≠ 3) (q4 : code ≠ 4) (q5 : code ≠ 5) (c2 : c.kind = 2) :
    Calls Try.prog 17 #[.agg (c.cs n N nc m D dc), .agg ms] w (RetQuiet c n N nc m D dc 0 w) := by
  subst hk
  subst hc
  subst hs
  have e1 : ((c.client : Int) != (c.client : Int)) = false := by simp
  have e2 : ((c.seq : Int) != (c.seq : Int)) = false := by simp
  have f1 : (code == 1) = false := by simp; omega
  have f2 : (code == 2) = false := by simp; omega
  have f3 : (code == 3) = false := by simp; omega
  have f4 : (code == 4) = false := by simp; omega
  have f5 : (code == 5) = false := by simp; omega
  have g2 : (c.kind == 2) = true := by simp; omega
  have KK := Lib.hid c2
  clear c2
  have HM := Lib.hid (may_opn hm true)
  have hcl := hm.c2
  clear hm
  unfold Cal.cs
  rw [ho]
  have HO := Lib.hid ho
  clear ho
  have hb0 := ((((Below.refl w.heap.size w).alloc (Nat.le_refl _) (.cells #[.int .u64 c.client, .slice N n nc, .int .i64 (c.at_), .int .i64 (c.turn), .int .u64 c.seq, .bool true, .int .i64 (c.kind), .string c.key, .slice D m dc, .int .i64 (c.waited), .int .i64 c.retry, .int .i64 c.limit] 40)).alloc (by simp) (.cells ms 38)).alloc (by simp; omega) (.cells #[.int .u64 0, .slice none 0 0, .int .i64 0, .int .i64 0, .int .u64 0, .bool false, .int .i64 0, .string ⟨#[]⟩, .slice none 0 0, .int .i64 0, .int .i64 0, .int .i64 0] 40)).alloc (by simp; omega) (.cells (ansZ 0) 47)
  have b0 := (((Blk.new w 40 #[.int .u64 c.client, .slice N n nc, .int .i64 (c.at_), .int .i64 (c.turn), .int .u64 c.seq, .bool true, .int .i64 (c.kind), .string c.key, .slice D m dc, .int .i64 (c.waited), .int .i64 c.retry, .int .i64 c.limit]).alloc (.cells ms 38)).alloc (.cells #[.int .u64 0, .slice none 0 0, .int .i64 0, .int .i64 0, .int .u64 0, .bool false, .int .i64 0, .string ⟨#[]⟩, .slice none 0 0, .int .i64 0, .int .i64 0, .int .i64 0] 40)).alloc (.cells (ansZ 0) 47)
  have b3 := ((blk_second w (.cells #[.int .u64 c.client, .slice N n nc, .int .i64 (c.at_), .int .i64 (c.turn), .int .u64 c.seq, .bool true, .int .i64 (c.kind), .string c.key, .slice D m dc, .int .i64 (c.waited), .int .i64 c.retry, .int .i64 c.limit] 40) 38 ms).alloc (.cells #[.int .u64 0, .slice none 0 0, .int .i64 0, .int .i64 0, .int .u64 0, .bool false, .int .i64 0, .string ⟨#[]⟩, .slice none 0 0, .int .i64 0, .int .i64 0, .int .i64 0] 40)).alloc (.cells (ansZ 0) 47)
  have b1 := (blk_second (w.alloc (.cells #[.int .u64 c.client, .slice N n nc, .int .i64 (c.at_), .int .i64 (c.turn), .int .u64 c.seq, .bool true, .int .i64 (c.kind), .string c.key, .slice D m dc, .int .i64 (c.waited), .int .i64 c.retry, .int .i64 c.limit] 40)) (.cells ms 38) 40 #[.int .u64 0, .slice none 0 0, .int .i64 0, .int .i64 0, .int .u64 0, .bool false, .int .i64 0, .string ⟨#[]⟩, .slice none 0 0, .int .i64 0, .int .i64 0, .int .i64 0]).alloc (.cells (ansZ 0) 47)
  have b2 := blk_second ((w.alloc (.cells #[.int .u64 c.client, .slice N n nc, .int .i64 (c.at_), .int .i64 (c.turn), .int .u64 c.seq, .bool true, .int .i64 (c.kind), .string c.key, .slice D m dc, .int .i64 (c.waited), .int .i64 c.retry, .int .i64 c.limit] 40)).alloc (.cells ms 38)) (.cells #[.int .u64 0, .slice none 0 0, .int .i64 0, .int .i64 0, .int .u64 0, .bool false, .int .i64 0, .string ⟨#[]⟩, .slice none 0 0, .int .i64 0, .int .i64 0, .int .i64 0] 40) 47 (ansZ 0)
  simp only [World.size_alloc] at b1 b2
  obtain ⟨wa, hwa⟩ : ∃ wa, (((w.alloc (.cells #[.int .u64 c.client, .slice N n nc, .int .i64 (c.at_), .int .i64 (c.turn), .int .u64 c.seq, .bool true, .int .i64 (c.kind), .string c.key, .slice D m dc, .int .i64 (c.waited), .int .i64 c.retry, .int .i64 c.limit] 40)).alloc (.cells ms 38)).alloc (.cells #[.int .u64 0, .slice none 0 0, .int .i64 0, .int .i64 0, .int .u64 0, .bool false, .int .i64 0, .string ⟨#[]⟩, .slice none 0 0, .int .i64 0, .int .i64 0, .int .i64 0] 40)).alloc (.cells (ansZ 0) 47) = wa := ⟨_, rfl⟩
  have hsz : wa.heap.size = w.heap.size + 1 + 1 + 1 + 1 := by rw [← hwa]; simp
  rw [hwa] at hb0 b0 b1 b2 b3
  obtain ⟨bx, hbx⟩ : ∃ bx, w.heap.size = bx := ⟨_, rfl⟩
  have HBX := Lib.hid hbx
  rw [hbx] at b0 b1 b2 b3 hsz
  have HS := Lib.hid hsz
  have HA := Lib.hid hb0
  have C1 := Lib.hid ((calin_opn h.out true).later hb0)
  have Z1 := Lib.hid b1
  have Z2 := Lib.hid b2
  have X0 := Lib.hid b0
  have Y0 := Lib.hid b3
  have HM0 := Lib.hid hm0
  have HM21 := Lib.hid hm21
  have HM22 := Lib.hid hm22
  have HM25 := Lib.hid hm25
  have HMS := Lib.hid hms
  have x0 := b0.cell 0
  have x1 := b0.cell 1
  have x2 := b0.cell 2
  have x3 := b0.cell 3
  have x4 := b0.cell 4
  have x5 := b0.cell 5
  have x6 := b0.cell 6
  have x7 := b0.cell 7
  have x8 := b0.cell 8
  have x9 := b0.cell 9
  have x10 := b0.cell 10
  have x11 := b0.cell 11
  simp only [List.getElem?_toArray, List.getElem?_cons_zero, List.getElem?_cons_succ] at x0 x1 x2 x3 x4 x5 x6 x7 x8 x9 x10 x11
  clear hsz hb0 b0 b1 b2 b3 hm0 hm21 hm22 hm25 hms
  unfold ansZ at hwa
  go_enter Try.func17, Try.ntmps17
  go_wp2_with (first
    | (go_at_call 32; clear hwa; refine (rmay_yes (c := { c with opn := true }) (n := n) (N := N) (nc := nc) (m := m) (D := D) (dc := dc) C1 HM.out).mono ?_; rintro e w1 ⟨rfl, hb⟩; have HA1 := Lib.hid (HA.out.trans (hb.mono HA.out.size)); have Z1 := Lib.hid (Z1.out.below hb Z1.out.lt); have Z2 := Lib.hid (Z2.out.below hb Z2.out.lt); have x := X0.out.below hb X0.out.lt; have y := Y0.out.below hb Y0.out.lt; have c0 := x.cell 0; have c1 := x.cell 1; have c2 := x.cell 2; have c3 := x.cell 3; have c4 := x.cell 4; have c5 := x.cell 5; have c6 := x.cell 6; have c7 := x.cell 7; have c8 := x.cell 8; have c9 := x.cell 9; have c10 := x.cell 10; have c11 := x.cell 11; have fx := x.frozen; have y0 := (y.cell 0).trans HM0.out; have y21 := (y.cell 21).trans HM21.out; have y22 := (y.cell 22).trans HM22.out; have y25 := (y.cell 25).trans HM25.out; have Y1 := Lib.hid y; have X1 := Lib.hid x; have HS1 := Lib.hid (show bx + 1 + 1 + 1 + 1 ≤ w1.heap.size from by have := hb.size; have := HS.out; omega); clear x y hb x0 x1 x2 x3 x4 x5 x6 x7 x8 x9 x10 x11; simp only [List.getElem?_toArray, List.getElem?_cons_zero, List.getElem?_cons_succ] at c0 c1 c2 c3 c4 c5 c6 c7 c8 c9 c10 c11)
    | (refine wpl_store_blk rfl 40 (.tmp 4) (.tmp 113) rfl (bx + 1 + 1) 40 #[.int .u64 0, .slice none 0 0, .int .i64 0, .int .i64 0, .int .u64 0, .bool false, .int .i64 0, .string ⟨#[]⟩, .slice none 0 0, .int .i64 0, .int .i64 0, .int .i64 0] (#[.int .u64 c.client, .slice N n nc, .int .i64 (c.at_), .int .i64 (c.turn), .int .u64 c.seq, .bool true, .int .i64 (c.kind), .string c.key, .slice D m dc, .int .i64 (c.waited), .int .i64 c.retry, .int .i64 c.limit]) rfl rfl Z1.out rfl Try.sizeC rfl ?_; intro w2 hB2 hO2)
    | (refine wpl_store_blk rfl 47 (.tmp 6) (.tmp 114) rfl (bx + 1 + 1 + 1) 47 (ansZ 0) (ansZ 0) rfl rfl (hO2.out.blk Z2.out (by omega)) rfl Try.sizeA rfl ?_; intro w3 hB3 hO3))
  have hbel : Below bx w w3 := ((by have := HA1.out; rwa [hbx] at this : Below bx w w1).trans (hO2.out.below (by omega))).trans (hO3.out.below (by omega))
  have hcal : CalIn w3 c n N nc m D dc := ⟨h.out.nl, (h.out.nr.below (by rwa [← hbx] at hbel)).here (by omega), h.out.n1, h.out.n2, h.out.dl, (h.out.dr.below (by rwa [← hbx] at hbel)).here (by omega), h.out.d1, h.out.d2, h.out.db⟩
  exact bodyPost_ret (v := .tuple #[.agg #[.int .u64 c.client, .slice N n nc, .int .i64 (c.at_), .int .i64 (c.turn), .int .u64 c.seq, .bool true, .int .i64 (c.kind), .string c.key, .slice D m dc, .int .i64 (c.waited), .int .i64 c.retry, .int .i64 c.limit], .slice none 0 0, .agg (ansZ 0)]) (res_ctc Try.results17 rfl rfl rfl (load_blk (hO3.out.blk hB2.out (by omega)) Try.underlying40 rfl Try.sizeC) (load_blk hB3.out Try.underlying47 rfl Try.sizeA)) rfl ⟨by unfold Cal.cs; rw [HO.out], by rw [hbx]; exact hbel⟩
set_option maxRecDepth 100000 in
set_option maxHeartbeats 1000000 in
theorem rgot_codeb (c : Cal) (n : Nat) (N : Option Addr) (nc m : Nat) (D : Option Addr) (dc : Nat) (ms : Array Value) (kind : Int) (client seq : Nat) (code : Int) (w : World) (h : Hid (CalIn w c n N nc m D dc)) (hm : May c) (hms : ms.size = 27) (hm0 : ms[0]? = some (.int .i64 kind)) (hm21 : ms[21]? = some (.int .u64 client)) (hm22 : ms[22]? = some (.int .u64 seq)) (hm25 : ms[25]? = some (.int .i64 code)) (ho : c.opn = true) (hk : kind = 17) (hc : client = c.client) (hs : seq = c.seq) (q1 : code ≠ 1) (q2 : code ≠ 2) (q3 : code ≠ 3) (q4 : code ≠ 4) (q5 : code ≠ 5) (c4 : c.kind = 4) :
    Calls Try.prog 17 #[.agg (c.cs n N nc m D dc), .agg ms] w (RetQuiet c n N nc m D dc 0 w) := by
  subst hk
  subst hc
  subst hs
  have e1 : ((c.client : Int) != (c.client : Int)) = false := by simp
  have e2 : ((c.seq : Int) != (c.seq : Int)) = false := by simp
  have f1 : (code == 1) = false := by simp; omega
  have f2 : (code == 2) = false := by simp; omega
  have f3 : (code == 3) = false := by simp; omega
  have f4 : (code == 4) = false := by simp; omega
  have f5 : (code == 5) = false := by simp; omega
  have g2 : (c.kind == 2) = false := by simp; omega
  have g4 : (c.kind == 4) = true := by simp; omega
  have KK := Lib.hid c4
  clear c4
  have HM := Lib.hid (may_opn hm true)
  have hcl := hm.c2
  clear hm
  unfold Cal.cs
  rw [ho]
  have HO := Lib.hid ho
  clear ho
  have hb0 := ((((Below.refl w.heap.size w).alloc (Nat.le_refl _) (.cells #[.int .u64 c.client, .slice N n nc, .int .i64 (c.at_), .int .i64 (c.turn), .int .u64 c.seq, .bool true, .int .i64 (c.kind), .string c.key, .slice D m dc, .int .i64 (c.waited), .int .i64 c.retry, .int .i64 c.limit] 40)).alloc (by simp) (.cells ms 38)).alloc (by simp; omega) (.cells #[.int .u64 0, .slice none 0 0, .int .i64 0, .int .i64 0, .int .u64 0, .bool false, .int .i64 0, .string ⟨#[]⟩, .slice none 0 0, .int .i64 0, .int .i64 0, .int .i64 0] 40)).alloc (by simp; omega) (.cells (ansZ 0) 47)
  have b0 := (((Blk.new w 40 #[.int .u64 c.client, .slice N n nc, .int .i64 (c.at_), .int .i64 (c.turn), .int .u64 c.seq, .bool true, .int .i64 (c.kind), .string c.key, .slice D m dc, .int .i64 (c.waited), .int .i64 c.retry, .int .i64 c.limit]).alloc (.cells ms 38)).alloc (.cells #[.int .u64 0, .slice none 0 0, .int .i64 0, .int .i64 0, .int .u64 0, .bool false, .int .i64 0, .string ⟨#[]⟩, .slice none 0 0, .int .i64 0, .int .i64 0, .int .i64 0] 40)).alloc (.cells (ansZ 0) 47)
  have b3 := ((blk_second w (.cells #[.int .u64 c.client, .slice N n nc, .int .i64 (c.at_), .int .i64 (c.turn), .int .u64 c.seq, .bool true, .int .i64 (c.kind), .string c.key, .slice D m dc, .int .i64 (c.waited), .int .i64 c.retry, .int .i64 c.limit] 40) 38 ms).alloc (.cells #[.int .u64 0, .slice none 0 0, .int .i64 0, .int .i64 0, .int .u64 0, .bool false, .int .i64 0, .string ⟨#[]⟩, .slice none 0 0, .int .i64 0, .int .i64 0, .int .i64 0] 40)).alloc (.cells (ansZ 0) 47)
  have b1 := (blk_second (w.alloc (.cells #[.int .u64 c.client, .slice N n nc, .int .i64 (c.at_), .int .i64 (c.turn), .int .u64 c.seq, .bool true, .int .i64 (c.kind), .string c.key, .slice D m dc, .int .i64 (c.waited), .int .i64 c.retry, .int .i64 c.limit] 40)) (.cells ms 38) 40 #[.int .u64 0, .slice none 0 0, .int .i64 0, .int .i64 0, .int .u64 0, .bool false, .int .i64 0, .string ⟨#[]⟩, .slice none 0 0, .int .i64 0, .int .i64 0, .int .i64 0]).alloc (.cells (ansZ 0) 47)
  have b2 := blk_second ((w.alloc (.cells #[.int .u64 c.client, .slice N n nc, .int .i64 (c.at_), .int .i64 (c.turn), .int .u64 c.seq, .bool true, .int .i64 (c.kind), .string c.key, .slice D m dc, .int .i64 (c.waited), .int .i64 c.retry, .int .i64 c.limit] 40)).alloc (.cells ms 38)) (.cells #[.int .u64 0, .slice none 0 0, .int .i64 0, .int .i64 0, .int .u64 0, .bool false, .int .i64 0, .string ⟨#[]⟩, .slice none 0 0, .int .i64 0, .int .i64 0, .int .i64 0] 40) 47 (ansZ 0)
  simp only [World.size_alloc] at b1 b2
  obtain ⟨wa, hwa⟩ : ∃ wa, (((w.alloc (.cells #[.int .u64 c.client, .slice N n nc, .int .i64 (c.at_), .int .i64 (c.turn), .int .u64 c.seq, .bool true, .int .i64 (c.kind), .string c.key, .slice D m dc, .int .i64 (c.waited), .int .i64 c.retry, .int .i64 c.limit] 40)).alloc (.cells ms 38)).alloc (.cells #[.int .u64 0, .slice none 0 0, .int .i64 0, .int .i64 0, .int .u64 0, .bool false, .int .i64 0, .string ⟨#[]⟩, .slice none 0 0, .int .i64 0, .int .i64 0, .int .i64 0] 40)).alloc (.cells (ansZ 0) 47) = wa := ⟨_, rfl⟩
  have hsz : wa.heap.size = w.heap.size + 1 + 1 + 1 + 1 := by rw [← hwa]; simp
  rw [hwa] at hb0 b0 b1 b2 b3
  obtain ⟨bx, hbx⟩ : ∃ bx, w.heap.size = bx := ⟨_, rfl⟩
  have HBX := Lib.hid hbx
  rw [hbx] at b0 b1 b2 b3 hsz
  have HS := Lib.hid hsz
  have HA := Lib.hid hb0
  have C1 := Lib.hid ((calin_opn h.out true).later hb0)
  have Z1 := Lib.hid b1
  have Z2 := Lib.hid b2
  have X0 := Lib.hid b0
  have Y0 := Lib.hid b3
  have HM0 := Lib.hid hm0
  have HM21 := Lib.hid hm21
  have HM22 := Lib.hid hm22
  have HM25 := Lib.hid hm25
  have HMS := Lib.hid hms
  have x0 := b0.cell 0
  have x1 := b0.cell 1
  have x2 := b0.cell 2
  have x3 := b0.cell 3
  have x4 := b0.cell 4
  have x5 := b0.cell 5
  have x6 := b0.cell 6
  have x7 := b0.cell 7
  have x8 := b0.cell 8
  have x9 := b0.cell 9
  have x10 := b0.cell 10
  have x11 := b0.cell 11
  simp only [List.getElem?_toArray, List.getElem?_cons_zero, List.getElem?_cons_succ] at x0 x1 x2 x3 x4 x5 x6 x7 x8 x9 x10 x11
  clear hsz hb0 b0 b1 b2 b3 hm0 hm21 hm22 hm25 hms
  unfold ansZ at hwa
  go_enter Try.func17, Try.ntmps17
  go_wp2_with (first
    | (go_at_call 32; clear hwa; refine (rmay_yes (c := { c with opn := true }) (n := n) (N := N) (nc := nc) (m := m) (D := D) (dc := dc) C1 HM.out).mono ?_; rintro e w1 ⟨rfl, hb⟩; have HA1 := Lib.hid (HA.out.trans (hb.mono HA.out.size)); have Z1 := Lib.hid (Z1.out.below hb Z1.out.lt); have Z2 := Lib.hid (Z2.out.below hb Z2.out.lt); have x := X0.out.below hb X0.out.lt; have y := Y0.out.below hb Y0.out.lt; have c0 := x.cell 0; have c1 := x.cell 1; have c2 := x.cell 2; have c3 := x.cell 3; have c4 := x.cell 4; have c5 := x.cell 5; have c6 := x.cell 6; have c7 := x.cell 7; have c8 := x.cell 8; have c9 := x.cell 9; have c10 := x.cell 10; have c11 := x.cell 11; have fx := x.frozen; have y0 := (y.cell 0).trans HM0.out; have y21 := (y.cell 21).trans HM21.out; have y22 := (y.cell 22).trans HM22.out; have y25 := (y.cell 25).trans HM25.out; have Y1 := Lib.hid y; have X1 := Lib.hid x; have HS1 := Lib.hid (show bx + 1 + 1 + 1 + 1 ≤ w1.heap.size from by have := hb.size; have := HS.out; omega); clear x y hb x0 x1 x2 x3 x4 x5 x6 x7 x8 x9 x10 x11; simp only [List.getElem?_toArray, List.getElem?_cons_zero, List.getElem?_cons_succ] at c0 c1 c2 c3 c4 c5 c6 c7 c8 c9 c10 c11)
    | (refine wpl_store_blk rfl 40 (.tmp 4) (.tmp 113) rfl (bx + 1 + 1) 40 #[.int .u64 0, .slice none 0 0, .int .i64 0, .int .i64 0, .int .u64 0, .bool false, .int .i64 0, .string ⟨#[]⟩, .slice none 0 0, .int .i64 0, .int .i64 0, .int .i64 0] (#[.int .u64 c.client, .slice N n nc, .int .i64 (c.at_), .int .i64 (c.turn), .int .u64 c.seq, .bool true, .int .i64 (c.kind), .string c.key, .slice D m dc, .int .i64 (c.waited), .int .i64 c.retry, .int .i64 c.limit]) rfl rfl Z1.out rfl Try.sizeC rfl ?_; intro w2 hB2 hO2)
    | (refine wpl_store_blk rfl 47 (.tmp 6) (.tmp 114) rfl (bx + 1 + 1 + 1) 47 (ansZ 0) (ansZ 0) rfl rfl (hO2.out.blk Z2.out (by omega)) rfl Try.sizeA rfl ?_; intro w3 hB3 hO3))
  have hbel : Below bx w w3 := ((by have := HA1.out; rwa [hbx] at this : Below bx w w1).trans (hO2.out.below (by omega))).trans (hO3.out.below (by omega))
  have hcal : CalIn w3 c n N nc m D dc := ⟨h.out.nl, (h.out.nr.below (by rwa [← hbx] at hbel)).here (by omega), h.out.n1, h.out.n2, h.out.dl, (h.out.dr.below (by rwa [← hbx] at hbel)).here (by omega), h.out.d1, h.out.d2, h.out.db⟩
  exact bodyPost_ret (v := .tuple #[.agg #[.int .u64 c.client, .slice N n nc, .int .i64 (c.at_), .int .i64 (c.turn), .int .u64 c.seq, .bool true, .int .i64 (c.kind), .string c.key, .slice D m dc, .int .i64 (c.waited), .int .i64 c.retry, .int .i64 c.limit], .slice none 0 0, .agg (ansZ 0)]) (res_ctc Try.results17 rfl rfl rfl (load_blk (hO3.out.blk hB2.out (by omega)) Try.underlying40 rfl Try.sizeC) (load_blk hB3.out Try.underlying47 rfl Try.sizeA)) rfl ⟨by unfold Cal.cs; rw [HO.out], by rw [hbx]; exact hbel⟩
set_option maxRecDepth 100000 in
set_option maxHeartbeats 1000000 in
theorem rgot_codec (c : Cal) (n : Nat) (N : Option Addr) (nc m : Nat) (D : Option Addr) (dc : Nat) (ms : Array Value) (kind : Int) (client seq : Nat) (code : Int) (w : World) (h : Hid (CalIn w c n N nc m D dc)) (hm : May c) (hms : ms.size = 27) (hm0 : ms[0]? = some (.int .i64 kind)) (hm21 : ms[21]? = some (.int .u64 client)) (hm22 : ms[22]? = some (.int .u64 seq)) (hm25 : ms[25]? = some (.int .i64 code)) (ho : c.opn = true) (hk : kind = 17) (hc : client = c.client) (hs : seq = c.seq) (q1 : code ≠ 1) (q2 : code ≠ 2) (q3 : code ≠ 3) (q4 : code ≠ 4) (q5 : code ≠ 5) (c2 : c.kind ≠ 2) (c4 : c.kind ≠ 4) :
    Calls Try.prog 17 #[.agg (c.cs n N nc m D dc), .agg ms] w (RetQuiet c n N nc m D dc 0 w) := by
  subst hk
  subst hc
  subst hs
  have e1 : ((c.client : Int) != (c.client : Int)) = false := by simp
  have e2 : ((c.seq : Int) != (c.seq : Int)) = false := by simp
  have f1 : (code == 1) = false := by simp; omega
  have f2 : (code == 2) = false := by simp; omega
  have f3 : (code == 3) = false := by simp; omega
  have f4 : (code == 4) = false := by simp; omega
  have f5 : (code == 5) = false := by simp; omega
  have g2 : (c.kind == 2) = false := by simp; omega
  have g4 : (c.kind == 4) = false := by simp; omega
  have HM := Lib.hid (may_opn hm true)
  have hcl := hm.c2
  clear hm
  unfold Cal.cs
  rw [ho]
  have HO := Lib.hid ho
  clear ho
  have hb0 := ((((Below.refl w.heap.size w).alloc (Nat.le_refl _) (.cells #[.int .u64 c.client, .slice N n nc, .int .i64 (c.at_), .int .i64 (c.turn), .int .u64 c.seq, .bool true, .int .i64 (c.kind), .string c.key, .slice D m dc, .int .i64 (c.waited), .int .i64 c.retry, .int .i64 c.limit] 40)).alloc (by simp) (.cells ms 38)).alloc (by simp; omega) (.cells #[.int .u64 0, .slice none 0 0, .int .i64 0, .int .i64 0, .int .u64 0, .bool false, .int .i64 0, .string ⟨#[]⟩, .slice none 0 0, .int .i64 0, .int .i64 0, .int .i64 0] 40)).alloc (by simp; omega) (.cells (ansZ 0) 47)
  have b0 := (((Blk.new w 40 #[.int .u64 c.client, .slice N n nc, .int .i64 (c.at_), .int .i64 (c.turn), .int .u64 c.seq, .bool true, .int .i64 (c.kind), .string c.key, .slice D m dc, .int .i64 (c.waited), .int .i64 c.retry, .int .i64 c.limit]).alloc (.cells ms 38)).alloc (.cells #[.int .u64 0, .slice none 0 0, .int .i64 0, .int .i64 0, .int .u64 0, .bool false, .int .i64 0, .string ⟨#[]⟩, .slice none 0 0, .int .i64 0, .int .i64 0, .int .i64 0] 40)).alloc (.cells (ansZ 0) 47)
  have b3 := ((blk_second w (.cells #[.int .u64 c.client, .slice N n nc, .int .i64 (c.at_), .int .i64 (c.turn), .int .u64 c.seq, .bool true, .int .i64 (c.kind), .string c.key, .slice D m dc, .int .i64 (c.waited), .int .i64 c.retry, .int .i64 c.limit] 40) 38 ms).alloc (.cells #[.int .u64 0, .slice none 0 0, .int .i64 0, .int .i64 0, .int .u64 0, .bool false, .int .i64 0, .string ⟨#[]⟩, .slice none 0 0, .int .i64 0, .int .i64 0, .int .i64 0] 40)).alloc (.cells (ansZ 0) 47)
  have b1 := (blk_second (w.alloc (.cells #[.int .u64 c.client, .slice N n nc, .int .i64 (c.at_), .int .i64 (c.turn), .int .u64 c.seq, .bool true, .int .i64 (c.kind), .string c.key, .slice D m dc, .int .i64 (c.waited), .int .i64 c.retry, .int .i64 c.limit] 40)) (.cells ms 38) 40 #[.int .u64 0, .slice none 0 0, .int .i64 0, .int .i64 0, .int .u64 0, .bool false, .int .i64 0, .string ⟨#[]⟩, .slice none 0 0, .int .i64 0, .int .i64 0, .int .i64 0]).alloc (.cells (ansZ 0) 47)
  have b2 := blk_second ((w.alloc (.cells #[.int .u64 c.client, .slice N n nc, .int .i64 (c.at_), .int .i64 (c.turn), .int .u64 c.seq, .bool true, .int .i64 (c.kind), .string c.key, .slice D m dc, .int .i64 (c.waited), .int .i64 c.retry, .int .i64 c.limit] 40)).alloc (.cells ms 38)) (.cells #[.int .u64 0, .slice none 0 0, .int .i64 0, .int .i64 0, .int .u64 0, .bool false, .int .i64 0, .string ⟨#[]⟩, .slice none 0 0, .int .i64 0, .int .i64 0, .int .i64 0] 40) 47 (ansZ 0)
  simp only [World.size_alloc] at b1 b2
  obtain ⟨wa, hwa⟩ : ∃ wa, (((w.alloc (.cells #[.int .u64 c.client, .slice N n nc, .int .i64 (c.at_), .int .i64 (c.turn), .int .u64 c.seq, .bool true, .int .i64 (c.kind), .string c.key, .slice D m dc, .int .i64 (c.waited), .int .i64 c.retry, .int .i64 c.limit] 40)).alloc (.cells ms 38)).alloc (.cells #[.int .u64 0, .slice none 0 0, .int .i64 0, .int .i64 0, .int .u64 0, .bool false, .int .i64 0, .string ⟨#[]⟩, .slice none 0 0, .int .i64 0, .int .i64 0, .int .i64 0] 40)).alloc (.cells (ansZ 0) 47) = wa := ⟨_, rfl⟩
  have hsz : wa.heap.size = w.heap.size + 1 + 1 + 1 + 1 := by rw [← hwa]; simp
  rw [hwa] at hb0 b0 b1 b2 b3
  obtain ⟨bx, hbx⟩ : ∃ bx, w.heap.size = bx := ⟨_, rfl⟩
  have HBX := Lib.hid hbx
  rw [hbx] at b0 b1 b2 b3 hsz
  have HS := Lib.hid hsz
  have HA := Lib.hid hb0
  have C1 := Lib.hid ((calin_opn h.out true).later hb0)
  have Z1 := Lib.hid b1
  have Z2 := Lib.hid b2
  have X0 := Lib.hid b0
  have Y0 := Lib.hid b3
  have HM0 := Lib.hid hm0
  have HM21 := Lib.hid hm21
  have HM22 := Lib.hid hm22
  have HM25 := Lib.hid hm25
  have HMS := Lib.hid hms
  have x0 := b0.cell 0
  have x1 := b0.cell 1
  have x2 := b0.cell 2
  have x3 := b0.cell 3
  have x4 := b0.cell 4
  have x5 := b0.cell 5
  have x6 := b0.cell 6
  have x7 := b0.cell 7
  have x8 := b0.cell 8
  have x9 := b0.cell 9
  have x10 := b0.cell 10
  have x11 := b0.cell 11
  simp only [List.getElem?_toArray, List.getElem?_cons_zero, List.getElem?_cons_succ] at x0 x1 x2 x3 x4 x5 x6 x7 x8 x9 x10 x11
  clear hsz hb0 b0 b1 b2 b3 hm0 hm21 hm22 hm25 hms
  unfold ansZ at hwa
  go_enter Try.func17, Try.ntmps17
  go_wp2_with (first
    | (go_at_call 32; clear hwa; refine (rmay_yes (c := { c with opn := true }) (n := n) (N := N) (nc := nc) (m := m) (D := D) (dc := dc) C1 HM.out).mono ?_; rintro e w1 ⟨rfl, hb⟩; have HA1 := Lib.hid (HA.out.trans (hb.mono HA.out.size)); have Z1 := Lib.hid (Z1.out.below hb Z1.out.lt); have Z2 := Lib.hid (Z2.out.below hb Z2.out.lt); have x := X0.out.below hb X0.out.lt; have y := Y0.out.below hb Y0.out.lt; have c0 := x.cell 0; have c1 := x.cell 1; have c2 := x.cell 2; have c3 := x.cell 3; have c4 := x.cell 4; have c5 := x.cell 5; have c6 := x.cell 6; have c7 := x.cell 7; have c8 := x.cell 8; have c9 := x.cell 9; have c10 := x.cell 10; have c11 := x.cell 11; have fx := x.frozen; have y0 := (y.cell 0).trans HM0.out; have y21 := (y.cell 21).trans HM21.out; have y22 := (y.cell 22).trans HM22.out; have y25 := (y.cell 25).trans HM25.out; have Y1 := Lib.hid y; have X1 := Lib.hid x; have HS1 := Lib.hid (show bx + 1 + 1 + 1 + 1 ≤ w1.heap.size from by have := hb.size; have := HS.out; omega); clear x y hb x0 x1 x2 x3 x4 x5 x6 x7 x8 x9 x10 x11; simp only [List.getElem?_toArray, List.getElem?_cons_zero, List.getElem?_cons_succ] at c0 c1 c2 c3 c4 c5 c6 c7 c8 c9 c10 c11)
    | (refine wpl_store_blk rfl 40 (.tmp 4) (.tmp 113) rfl (bx + 1 + 1) 40 #[.int .u64 0, .slice none 0 0, .int .i64 0, .int .i64 0, .int .u64 0, .bool false, .int .i64 0, .string ⟨#[]⟩, .slice none 0 0, .int .i64 0, .int .i64 0, .int .i64 0] (#[.int .u64 c.client, .slice N n nc, .int .i64 (c.at_), .int .i64 (c.turn), .int .u64 c.seq, .bool true, .int .i64 (c.kind), .string c.key, .slice D m dc, .int .i64 (c.waited), .int .i64 c.retry, .int .i64 c.limit]) rfl rfl Z1.out rfl Try.sizeC rfl ?_; intro w2 hB2 hO2)
    | (refine wpl_store_blk rfl 47 (.tmp 6) (.tmp 114) rfl (bx + 1 + 1 + 1) 47 (ansZ 0) (ansZ 0) rfl rfl (hO2.out.blk Z2.out (by omega)) rfl Try.sizeA rfl ?_; intro w3 hB3 hO3))
  have hbel : Below bx w w3 := ((by have := HA1.out; rwa [hbx] at this : Below bx w w1).trans (hO2.out.below (by omega))).trans (hO3.out.below (by omega))
  have hcal : CalIn w3 c n N nc m D dc := ⟨h.out.nl, (h.out.nr.below (by rwa [← hbx] at hbel)).here (by omega), h.out.n1, h.out.n2, h.out.dl, (h.out.dr.below (by rwa [← hbx] at hbel)).here (by omega), h.out.d1, h.out.d2, h.out.db⟩
  exact bodyPost_ret (v := .tuple #[.agg #[.int .u64 c.client, .slice N n nc, .int .i64 (c.at_), .int .i64 (c.turn), .int .u64 c.seq, .bool true, .int .i64 (c.kind), .string c.key, .slice D m dc, .int .i64 (c.waited), .int .i64 c.retry, .int .i64 c.limit], .slice none 0 0, .agg (ansZ 0)]) (res_ctc Try.results17 rfl rfl rfl (load_blk (hO3.out.blk hB2.out (by omega)) Try.underlying40 rfl Try.sizeC) (load_blk hB3.out Try.underlying47 rfl Try.sizeA)) rfl ⟨by unfold Cal.cs; rw [HO.out], by rw [hbx]; exact hbel⟩
set_option maxRecDepth 100000 in
set_option maxHeartbeats 1000000 in
theorem rgot_now (c : Cal) (n : Nat) (N : Option Addr) (nc m : Nat) (D : Option Addr) (dc : Nat) (ms : Array Value) (kind : Int) (client seq : Nat) (code : Int) (w : World) (h : Hid (CalIn w c n N nc m D dc)) (hm : May c) (hms : ms.size = 27) (hm0 : ms[0]? = some (.int .i64 kind)) (hm21 : ms[21]? = some (.int .u64 client)) (hm22 : ms[22]? = some (.int .u64 seq)) (hm25 : ms[25]? = some (.int .i64 code)) (ho : c.opn = true) (hk : kind = 17) (hc : client = c.client) (hs : seq = c.seq) (hcd : code = 4) (c2 : c.kind ≠ 2) (c4 : c.kind ≠ 4) :
    Calls Try.prog 17 #[.agg (c.cs n N nc m D dc), .agg ms] w (RetQuiet c n N nc m D dc 0 w) := by
  subst hk
  subst hc
  subst hs
  have e1 : ((c.client : Int) != (c.client : Int)) = false := by simp
  have e2 : ((c.seq : Int) != (c.seq : Int)) = false := by simp
  subst hcd
  have g2 : (c.kind == 2) = false := by simp; omega
  have g4 : (c.kind == 4) = false := by simp; omega
  have HM := Lib.hid (may_opn hm true)
  have hcl := hm.c2
  clear hm
  unfold Cal.cs
  rw [ho]
  have HO := Lib.hid ho
  clear ho
  have hb0 := ((((Below.refl w.heap.size w).alloc (Nat.le_refl _) (.cells #[.int .u64 c.client, .slice N n nc, .int .i64 (c.at_), .int .i64 (c.turn), .int .u64 c.seq, .bool true, .int .i64 (c.kind), .string c.key, .slice D m dc, .int .i64 (c.waited), .int .i64 c.retry, .int .i64 c.limit] 40)).alloc (by simp) (.cells ms 38)).alloc (by simp; omega) (.cells #[.int .u64 0, .slice none 0 0, .int .i64 0, .int .i64 0, .int .u64 0, .bool false, .int .i64 0, .string ⟨#[]⟩, .slice none 0 0, .int .i64 0, .int .i64 0, .int .i64 0] 40)).alloc (by simp; omega) (.cells (ansZ 0) 47)
  have b0 := (((Blk.new w 40 #[.int .u64 c.client, .slice N n nc, .int .i64 (c.at_), .int .i64 (c.turn), .int .u64 c.seq, .bool true, .int .i64 (c.kind), .string c.key, .slice D m dc, .int .i64 (c.waited), .int .i64 c.retry, .int .i64 c.limit]).alloc (.cells ms 38)).alloc (.cells #[.int .u64 0, .slice none 0 0, .int .i64 0, .int .i64 0, .int .u64 0, .bool false, .int .i64 0, .string ⟨#[]⟩, .slice none 0 0, .int .i64 0, .int .i64 0, .int .i64 0] 40)).alloc (.cells (ansZ 0) 47)
  have b3 := ((blk_second w (.cells #[.int .u64 c.client, .slice N n nc, .int .i64 (c.at_), .int .i64 (c.turn), .int .u64 c.seq, .bool true, .int .i64 (c.kind), .string c.key, .slice D m dc, .int .i64 (c.waited), .int .i64 c.retry, .int .i64 c.limit] 40) 38 ms).alloc (.cells #[.int .u64 0, .slice none 0 0, .int .i64 0, .int .i64 0, .int .u64 0, .bool false, .int .i64 0, .string ⟨#[]⟩, .slice none 0 0, .int .i64 0, .int .i64 0, .int .i64 0] 40)).alloc (.cells (ansZ 0) 47)
  have b1 := (blk_second (w.alloc (.cells #[.int .u64 c.client, .slice N n nc, .int .i64 (c.at_), .int .i64 (c.turn), .int .u64 c.seq, .bool true, .int .i64 (c.kind), .string c.key, .slice D m dc, .int .i64 (c.waited), .int .i64 c.retry, .int .i64 c.limit] 40)) (.cells ms 38) 40 #[.int .u64 0, .slice none 0 0, .int .i64 0, .int .i64 0, .int .u64 0, .bool false, .int .i64 0, .string ⟨#[]⟩, .slice none 0 0, .int .i64 0, .int .i64 0, .int .i64 0]).alloc (.cells (ansZ 0) 47)
  have b2 := blk_second ((w.alloc (.cells #[.int .u64 c.client, .slice N n nc, .int .i64 (c.at_), .int .i64 (c.turn), .int .u64 c.seq, .bool true, .int .i64 (c.kind), .string c.key, .slice D m dc, .int .i64 (c.waited), .int .i64 c.retry, .int .i64 c.limit] 40)).alloc (.cells ms 38)) (.cells #[.int .u64 0, .slice none 0 0, .int .i64 0, .int .i64 0, .int .u64 0, .bool false, .int .i64 0, .string ⟨#[]⟩, .slice none 0 0, .int .i64 0, .int .i64 0, .int .i64 0] 40) 47 (ansZ 0)
  simp only [World.size_alloc] at b1 b2
  obtain ⟨wa, hwa⟩ : ∃ wa, (((w.alloc (.cells #[.int .u64 c.client, .slice N n nc, .int .i64 (c.at_), .int .i64 (c.turn), .int .u64 c.seq, .bool true, .int .i64 (c.kind), .string c.key, .slice D m dc, .int .i64 (c.waited), .int .i64 c.retry, .int .i64 c.limit] 40)).alloc (.cells ms 38)).alloc (.cells #[.int .u64 0, .slice none 0 0, .int .i64 0, .int .i64 0, .int .u64 0, .bool false, .int .i64 0, .string ⟨#[]⟩, .slice none 0 0, .int .i64 0, .int .i64 0, .int .i64 0] 40)).alloc (.cells (ansZ 0) 47) = wa := ⟨_, rfl⟩
  have hsz : wa.heap.size = w.heap.size + 1 + 1 + 1 + 1 := by rw [← hwa]; simp
  rw [hwa] at hb0 b0 b1 b2 b3
  obtain ⟨bx, hbx⟩ : ∃ bx, w.heap.size = bx := ⟨_, rfl⟩
  have HBX := Lib.hid hbx
  rw [hbx] at b0 b1 b2 b3 hsz
  have HS := Lib.hid hsz
  have HA := Lib.hid hb0
  have C1 := Lib.hid ((calin_opn h.out true).later hb0)
  have Z1 := Lib.hid b1
  have Z2 := Lib.hid b2
  have X0 := Lib.hid b0
  have Y0 := Lib.hid b3
  have HM0 := Lib.hid hm0
  have HM21 := Lib.hid hm21
  have HM22 := Lib.hid hm22
  have HM25 := Lib.hid hm25
  have HMS := Lib.hid hms
  have x0 := b0.cell 0
  have x1 := b0.cell 1
  have x2 := b0.cell 2
  have x3 := b0.cell 3
  have x4 := b0.cell 4
  have x5 := b0.cell 5
  have x6 := b0.cell 6
  have x7 := b0.cell 7
  have x8 := b0.cell 8
  have x9 := b0.cell 9
  have x10 := b0.cell 10
  have x11 := b0.cell 11
  simp only [List.getElem?_toArray, List.getElem?_cons_zero, List.getElem?_cons_succ] at x0 x1 x2 x3 x4 x5 x6 x7 x8 x9 x10 x11
  clear hsz hb0 b0 b1 b2 b3 hm0 hm21 hm22 hm25 hms
  unfold ansZ at hwa
  go_enter Try.func17, Try.ntmps17
  go_wp2_with (first
    | (go_at_call 32; clear hwa; refine (rmay_yes (c := { c with opn := true }) (n := n) (N := N) (nc := nc) (m := m) (D := D) (dc := dc) C1 HM.out).mono ?_; rintro e w1 ⟨rfl, hb⟩; have HA1 := Lib.hid (HA.out.trans (hb.mono HA.out.size)); have Z1 := Lib.hid (Z1.out.below hb Z1.out.lt); have Z2 := Lib.hid (Z2.out.below hb Z2.out.lt); have x := X0.out.below hb X0.out.lt; have y := Y0.out.below hb Y0.out.lt; have c0 := x.cell 0; have c1 := x.cell 1; have c2 := x.cell 2; have c3 := x.cell 3; have c4 := x.cell 4; have c5 := x.cell 5; have c6 := x.cell 6; have c7 := x.cell 7; have c8 := x.cell 8; have c9 := x.cell 9; have c10 := x.cell 10; have c11 := x.cell 11; have fx := x.frozen; have y0 := (y.cell 0).trans HM0.out; have y21 := (y.cell 21).trans HM21.out; have y22 := (y.cell 22).trans HM22.out; have y25 := (y.cell 25).trans HM25.out; have Y1 := Lib.hid y; have X1 := Lib.hid x; have HS1 := Lib.hid (show bx + 1 + 1 + 1 + 1 ≤ w1.heap.size from by have := hb.size; have := HS.out; omega); clear x y hb x0 x1 x2 x3 x4 x5 x6 x7 x8 x9 x10 x11; simp only [List.getElem?_toArray, List.getElem?_cons_zero, List.getElem?_cons_succ] at c0 c1 c2 c3 c4 c5 c6 c7 c8 c9 c10 c11)
    | (refine wpl_store_blk rfl 40 (.tmp 4) (.tmp 113) rfl (bx + 1 + 1) 40 #[.int .u64 0, .slice none 0 0, .int .i64 0, .int .i64 0, .int .u64 0, .bool false, .int .i64 0, .string ⟨#[]⟩, .slice none 0 0, .int .i64 0, .int .i64 0, .int .i64 0] (#[.int .u64 c.client, .slice N n nc, .int .i64 (c.at_), .int .i64 (c.turn), .int .u64 c.seq, .bool true, .int .i64 (c.kind), .string c.key, .slice D m dc, .int .i64 (c.waited), .int .i64 c.retry, .int .i64 c.limit]) rfl rfl Z1.out rfl Try.sizeC rfl ?_; intro w2 hB2 hO2)
    | (refine wpl_store_blk rfl 47 (.tmp 6) (.tmp 114) rfl (bx + 1 + 1 + 1) 47 (ansZ 0) (ansZ 0) rfl rfl (hO2.out.blk Z2.out (by omega)) rfl Try.sizeA rfl ?_; intro w3 hB3 hO3))
  have hbel : Below bx w w3 := ((by have := HA1.out; rwa [hbx] at this : Below bx w w1).trans (hO2.out.below (by omega))).trans (hO3.out.below (by omega))
  have hcal : CalIn w3 c n N nc m D dc := ⟨h.out.nl, (h.out.nr.below (by rwa [← hbx] at hbel)).here (by omega), h.out.n1, h.out.n2, h.out.dl, (h.out.dr.below (by rwa [← hbx] at hbel)).here (by omega), h.out.d1, h.out.d2, h.out.db⟩
  exact bodyPost_ret (v := .tuple #[.agg #[.int .u64 c.client, .slice N n nc, .int .i64 (c.at_), .int .i64 (c.turn), .int .u64 c.seq, .bool true, .int .i64 (c.kind), .string c.key, .slice D m dc, .int .i64 (c.waited), .int .i64 c.retry, .int .i64 c.limit], .slice none 0 0, .agg (ansZ 0)]) (res_ctc Try.results17 rfl rfl rfl (load_blk (hO3.out.blk hB2.out (by omega)) Try.underlying40 rfl Try.sizeC) (load_blk hB3.out Try.underlying47 rfl Try.sizeA)) rfl ⟨by unfold Cal.cs; rw [HO.out], by rw [hbx]; exact hbel⟩
end Go.Proofs.Ytmamdnikjfmenaa
