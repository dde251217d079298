/-
  Got: what answers a call.
-/
import Derived.Test.YtmamdnikjfmenaaClW7
namespace Go.Proofs.Ytmamdnikjfmenaa
open Go.RowKit
set_option linter.unusedVariables false
def RetTells (c : Cal) (n : Nat) (N : Option Addr) (nc : Nat) (code : Int) (em gm : Nat) (data : List Nat) (names : List Value) (w : World) (e : Ending) (w' : World) : Prop :=
  ∃ E ec G gc, e = .returned (.tuple #[.agg (c.closed.cs n N nc 0 none 0), .slice none 0 0, .agg #[.int .i64 code, .slice E em ec, .slice G gm gc]]) ∧ Below w.heap.size w w' ∧
    em ≤ ec ∧ ec ≤ maxLen ∧ w'.ownsRow w.heap.size 5 1 (.slice E em ec) em (data.map bv) ∧ gm ≤ gc ∧ gc ≤ maxLen ∧ w'.ownsRow w.heap.size 9 1 (.slice G gm gc) gm names
set_option maxRecDepth 100000 in
set_option maxHeartbeats 2000000 in
theorem got_two (c : Cal) (n : Nat) (N : Option Addr) (nc m : Nat) (D : Option Addr) (dc : Nat) (ms : Array Value) (kind : Int) (client seq : Nat) (code : Int) (w : World) (h : Hid (CalIn w c n N nc m D dc)) (hm : May c) (hms : ms.size = 27) (hm0 : ms[0]? = some (.int .i64 kind)) (hm21 : ms[21]? = some (.int .u64 client)) (hm22 : ms[22]? = some (.int .u64 seq)) (hm25 : ms[25]? = some (.int .i64 code)) (ho : c.opn = true) (hk : kind = 17) (hc : client = c.client) (hs : seq = c.seq) (hcd : code = 2) (E : Option Addr) (em ec : Nat) (data : List Nat) (hm20 : ms[20]? = some (.slice E em ec)) (HE : Hid (Reads w w.heap.size 1 E em (data.map bv))) (hem : em ≤ 140737488351232) (G : Option Addr) (gm gc : Nat) (names : List Value) (hm26 : ms[26]? = some (.slice G gm gc)) (HG : Hid (Reads w w.heap.size 1 G gm names)) (hn1 : ∀ u ∈ names, u.oneCell' = true) (hgm : gm * 16 ≤ 140737488355328) :
    Calls Try.prog 10 #[.agg (c.cs n N nc m D dc), .agg ms] w (RetTells c n N nc 2 em gm data names w) := by
  subst hk
  subst hc
  subst hs
  subst hcd
  have e1 : ((c.client : Int) != (c.client : Int)) = false := by simp
  have e2 : ((c.seq : Int) != (c.seq : Int)) = false := by simp
  have HM20 := Lib.hid hm20
  have HM26 := Lib.hid hm26
  have oneb := Lib.hid (bv_one data)
  have onet := Lib.hid hn1
  clear hm20 hm26 hn1
  have HM := Lib.hid (may_opn hm true)
  have hcl := hm.c2
  clear hm
  unfold Cal.cs
  rw [ho]
  have HO := Lib.hid ho
  clear ho
  have hb0 := ((((Below.refl w.heap.size w).alloc (Nat.le_refl _) (.cells #[.int .u64 c.client, .slice N n nc, .int .i64 (c.at_), .int .i64 (c.turn), .int .u64 c.seq, .bool true, .int .i64 (c.kind), .string c.key, .slice D m dc, .int .i64 (c.waited), .int .i64 c.retry, .int .i64 c.limit] 40)).alloc (by simp) (.cells ms 38)).alloc (by simp; omega) (.cells #[.int .u64 0, .slice none 0 0, .int .i64 0, .int .i64 0, .int .u64 0, .bool false, .int .i64 0, .string ⟨#[]⟩, .slice none 0 0, .int .i64 0, .int .i64 0, .int .i64 0] 40)).alloc (by simp; omega) (.cells (ansZ 0) 47)
  have b0 := (((Blk.new w 40 #[.int .u64 c.client, .slice N n nc, .int .i64 (c.at_), .int .i64 (c.turn), .int .u64 c.seq, .bool true, .int .i64 (c.kind), .string c.key, .slice D m dc, .int .i64 (c.waited), .int .i64 c.retry, .int .i64 c.limit]).alloc (.cells ms 38)).alloc (.cells #[.int .u64 0, .slice none 0 0, .int .i64 0, .int .i64 0, .int .u64 0, .bool false, .int .i64 0, .string ⟨#[]⟩, .slice none 0 0, .int .i64 0, .int .i64 0, .int .i64 0] 40)).alloc (.cells (ansZ 0) 47)
  have b3 := ((blk_second w (.cells #[.int .u64 c.client, .slice N n nc, .int .i64 (c.at_), .int .i64 (c.turn), .int .u64 c.seq, .bool true, .int .i64 (c.kind), .string c.key, .slice D m dc, .int .i64 (c.waited), .int .i64 c.retry, .int .i64 c.limit] 40) 38 ms).alloc (.cells #[.int .u64 0, .slice none 0 0, .int .i64 0, .int .i64 0, .int .u64 0, .bool false, .int .i64 0, .string ⟨#[]⟩, .slice none 0 0, .int .i64 0, .int .i64 0, .int .i64 0] 40)).alloc (.cells (ansZ 0) 47)
  have b1 := (blk_second (w.alloc (.cells #[.int .u64 c.client, .slice N n nc, .int .i64 (c.at_), .int .i64 (c.turn), .int .u64 c.seq, .bool true, .int .i64 (c.kind), .string c.key, .slice D m dc, .int .i64 (c.waited), .int .i64 c.retry, .int .i64 c.limit] 40)) (.cells ms 38) 40 #[.int .u64 0, .slice none 0 0, .int .i64 0, .int .i64 0, .int .u64 0, .bool false, .int .i64 0, .string ⟨#[]⟩, .slice none 0 0, .int .i64 0, .int .i64 0, .int .i64 0]).alloc (.cells (ansZ 0) 47)
  have b2 := blk_second ((w.alloc (.cells #[.int .u64 c.client, .slice N n nc, .int .i64 (c.at_), .int .i64 (c.turn), .int .u64 c.seq, .bool true, .int .i64 (c.kind), .string c.key, .slice D m dc, .int .i64 (c.waited), .int .i64 c.retry, .int .i64 c.limit] 40)).alloc (.cells ms 38)) (.cells #[.int .u64 0, .slice none 0 0, .int .i64 0, .int .i64 0, .int .u64 0, .bool false, .int .i64 0, .string ⟨#[]⟩, .slice none 0 0, .int .i64 0, .int .i64 0, .int .i64 0] 40) 47 (ansZ 0)
  simp only [World.size_alloc] at b1 b2
  obtain ⟨wa, hwa⟩ : ∃ wa, (((w.alloc (.cells #[.int .u64 c.client, .slice N n nc, .int .i64 (c.at_), .int .i64 (c.turn), .int .u64 c.seq, .bool true, .int .i64 (c.kind), .string c.key, .slice D m dc, .int .i64 (c.waited), .int .i64 c.retry, .int .i64 c.limit] 40)).alloc (.cells ms 38)).alloc (.cells #[.int .u64 0, .slice none 0 0, .int .i64 0, .int .i64 0, .int .u64 0, .bool false, .int .i64 0, .string ⟨#[]⟩, .slice none 0 0, .int .i64 0, .int .i64 0, .int .i64 0] 40)).alloc (.cells (ansZ 0) 47) = wa := ⟨_, rfl⟩
  have hsz : wa.heap.size = w.heap.size + 1 + 1 + 1 + 1 := by rw [← hwa]; simp
  rw [hwa] at hb0 b0 b1 b2 b3
  obtain ⟨bx, hbx⟩ : ∃ bx, w.heap.size = bx := ⟨_, rfl⟩
  have HBX := Lib.hid hbx
  rw [hbx] at b0 b1 b2 b3 hsz
  have HS := Lib.hid hsz
  have HA := Lib.hid hb0
  have C1 := Lib.hid ((calin_opn h.out true).later hb0)
  have Z1 := Lib.hid b1
  have Z2 := Lib.hid b2
  have X0 := Lib.hid b0
  have Y0 := Lib.hid b3
  have HM0 := Lib.hid hm0
  have HM21 := Lib.hid hm21
  have HM22 := Lib.hid hm22
  have HM25 := Lib.hid hm25
  have HMS := Lib.hid hms
  have x0 := b0.cell 0
  have x1 := b0.cell 1
  have x2 := b0.cell 2
  have x3 := b0.cell 3
  have x4 := b0.cell 4
  have x5 := b0.cell 5
  have x6 := b0.cell 6
  have x7 := b0.cell 7
  have x8 := b0.cell 8
  have x9 := b0.cell 9
  have x10 := b0.cell 10
  have x11 := b0.cell 11
  simp only [List.getElem?_toArray, List.getElem?_cons_zero, List.getElem?_cons_succ] at x0 x1 x2 x3 x4 x5 x6 x7 x8 x9 x10 x11
  clear hsz hb0 b0 b1 b2 b3 hm0 hm21 hm22 hm25 hms
  unfold ansZ at hwa
  go_enter Try.func10, Try.ntmps10
  go_wp2_with (go_at_call 22; clear hwa; refine (may_yes (c := { c with opn := true }) (n := n) (N := N) (nc := nc) (m := m) (D := D) (dc := dc) C1 HM.out).mono ?_; rintro e w1 ⟨rfl, hb⟩; have HA1 := Lib.hid (HA.out.trans (hb.mono HA.out.size)); have Z1 := Lib.hid (Z1.out.below hb Z1.out.lt); have Z2 := Lib.hid (Z2.out.below hb Z2.out.lt); have x := X0.out.below hb X0.out.lt; have y := Y0.out.below hb Y0.out.lt; have c0 := x.cell 0; have c1 := x.cell 1; have c2 := x.cell 2; have c3 := x.cell 3; have c4 := x.cell 4; have c5 := x.cell 5; have c6 := x.cell 6; have c7 := x.cell 7; have c8 := x.cell 8; have c9 := x.cell 9; have c10 := x.cell 10; have c11 := x.cell 11; have fx := x.frozen; have y0 := (y.cell 0).trans HM0.out; have y21 := (y.cell 21).trans HM21.out; have y22 := (y.cell 22).trans HM22.out; have y25 := (y.cell 25).trans HM25.out; have Y1 := Lib.hid y; have X1 := Lib.hid x; have HS1 := Lib.hid (show bx + 1 + 1 + 1 + 1 ≤ w1.heap.size from by have := hb.size; have := HS.out; omega); clear x y hb x0 x1 x2 x3 x4 x5 x6 x7 x8 x9 x10 x11; simp only [List.getElem?_toArray, List.getElem?_cons_zero, List.getElem?_cons_succ] at c0 c1 c2 c3 c4 c5 c6 c7 c8 c9 c10 c11)
  have EB := Lib.hid ((HE.out.below HA1.out).more (B' := w1.heap.size) (by rw [hbx]; have := HS1.out; omega))
  have GB := Lib.hid ((HG.out.below HA1.out).more (B' := w1.heap.size) (by rw [hbx]; have := HS1.out; omega))
  clear y0 y21 y22 y25 fx c0 c1 c2 c3 c4 c5 c6 c7 c8 c9 c10 c11
  refine wp_region_late (S0 := fun w' => Hid (Blk w' bx 40 #[.int .u64 c.client, .slice N n nc, .int .i64 (c.at_), .int .i64 (c.turn), .int .u64 c.seq, .bool true, .int .i64 (c.kind), .string c.key, .slice D m dc, .int .i64 (c.waited), .int .i64 c.retry, .int .i64 c.limit]) ∧ Hid (Blk w' (bx + 1) 38 ms)) (S := fun _ => True) 11 14 (by kernel_rfl) rfl ⟨⟨Lib.hid X1.out.drew, Lib.hid Y1.out.drew⟩, trivial⟩ (fun wd hwd hH => ?_)
  have DD := Lib.hid (show Below w1.heap.size w1 wd from by rw [hwd]; exact (Below.refl _ _).drew)
  clear hwd
  have ED := Lib.hid (EB.out.later DD.out)
  have GD := Lib.hid (GB.out.later DD.out)
  have Z1 := Lib.hid (Z1.out.below DD.out Z1.out.lt)
  have Z2 := Lib.hid (Z2.out.below DD.out Z2.out.lt)
  have HSD := Lib.hid (Nat.le_trans HS1.out DD.out.size)
  refine wpAnyT_stay 0 rfl (by kernel_rfl) (fun _ _ _ h => h) (yields_load_blk rfl 40 (.tmp 2) rfl bx 40 #[.int .u64 c.client, .slice N n nc, .int .i64 (c.at_), .int .i64 (c.turn), .int .u64 c.seq, .bool true, .int .i64 (c.kind), .string c.key, .slice D m dc, .int .i64 (c.waited), .int .i64 c.retry, .int .i64 c.limit] _ rfl (fun w' hw' => hw'.1.out) Try.underlying40 rfl Try.sizeC) ⟨hH.1, fun _ => hH.2⟩ ?_
  try simp only [Act.put, List.setIfInBounds_toArray, List.set_cons_zero, List.set_cons_succ]
  refine wpAnyT_stay 2 (v := ?_) rfl (by kernel_rfl) (fun _ _ _ h => h) (Or.inl ⟨by rfl, ?_⟩) ⟨hH.1, fun _ => hH.2⟩ ?_
  rotate_left
  · (intro wx hx; go_simp <;> with_reducible rfl)
  try simp only [Act.put, List.setIfInBounds_toArray, List.set_cons_zero, List.set_cons_succ]
  refine wpAnyT_stay 3 (v := ?_) rfl (by kernel_rfl) (fun _ _ _ h => h) (Or.inl ⟨by rfl, ?_⟩) ⟨hH.1, fun _ => hH.2⟩ ?_
  rotate_left
  · (intro wx hx; have hq := (hx.2.out.cell 25).trans HM25.out; clear hx; go_simp <;> with_reducible rfl)
  try simp only [Act.put, List.setIfInBounds_toArray, List.set_cons_zero, List.set_cons_succ]
  refine wpAnyT_stay 4 (v := ?_) rfl (by kernel_rfl) (fun _ _ _ h => h) (Or.inl ⟨by rfl, ?_⟩) ⟨hH.1, fun _ => hH.2⟩ ?_
  rotate_left
  · (intro wx hx; go_simp <;> with_reducible rfl)
  try simp only [Act.put, List.setIfInBounds_toArray, List.set_cons_zero, List.set_cons_succ]
  refine wpAnyT_stay 5 (v := ?_) rfl (by kernel_rfl) (fun _ _ _ h => h) (Or.inl ⟨by rfl, ?_⟩) ⟨hH.1, fun _ => hH.2⟩ ?_
  rotate_left
  · (intro wx hx; have hq := (hx.2.out.cell 20).trans HM20.out; clear hx; go_simp <;> with_reducible rfl)
  try simp only [Act.put, List.setIfInBounds_toArray, List.set_cons_zero, List.set_cons_succ]
  refine wpAnyT_stay 7 (v := ?_) rfl (by kernel_rfl) (fun _ _ _ h => h) (Or.inl ⟨by rfl, ?_⟩) ⟨hH.1, fun _ => hH.2⟩ ?_
  rotate_left
  · (intro wx hx; go_simp <;> with_reducible rfl)
  try simp only [Act.put, List.setIfInBounds_toArray, List.set_cons_zero, List.set_cons_succ]
  refine wpAnyT_stay 8 (v := ?_) rfl (by kernel_rfl) (fun _ _ _ h => h) (Or.inl ⟨by rfl, ?_⟩) ⟨hH.1, fun _ => hH.2⟩ ?_
  rotate_left
  · (intro wx hx; have hq := (hx.2.out.cell 26).trans HM26.out; clear hx; go_simp <;> with_reducible rfl)
  try simp only [Act.put, List.setIfInBounds_toArray, List.set_cons_zero, List.set_cons_succ]
  refine wpAnyT_one 1 rfl (by kernel_rfl) (fun K hK => ?_)
  go_simp
  (go_at_call 26; refine (closed_any ({ c with opn := true }) n N nc m D dc _).mono ?_; rintro e w3 ⟨rfl, hb⟩; have HB3 := Lib.hid hb; clear hb)
  refine hK.out _ _ ⟨⟨Lib.hid (hH.1.1.out.below HB3.out hH.1.1.out.lt), Lib.hid (hH.1.2.out.below HB3.out hH.1.2.out.lt)⟩, trivial⟩ (fun hH2 => ?_)
  clear hK K
  try simp only [Act.put, List.setIfInBounds_toArray, List.set_cons_zero, List.set_cons_succ]
  have ED3 := Lib.hid (ED.out.later HB3.out)
  have GD3 := Lib.hid (GD.out.later HB3.out)
  refine wpAnyT_one 6 rfl (by kernel_rfl) (fun K hK => ?_)
  go_simp
  (go_at_call 27; refine (clone_bytes E em ec (data.map bv) _ ED3 oneb (by omega)).mono ?_; rintro e w4 ⟨E4, ec4, rfl, p1, p2, p3, hb⟩; have HB4 := Lib.hid hb; have HO4 := Lib.hid p3; clear hb p3)
  refine hK.out _ _ ⟨⟨Lib.hid (hH2.1.1.out.below HB4.out hH2.1.1.out.lt), Lib.hid (hH2.1.2.out.below HB4.out hH2.1.2.out.lt)⟩, trivial⟩ (fun hH3 => ?_)
  clear hK K
  try simp only [Act.put, List.setIfInBounds_toArray, List.set_cons_zero, List.set_cons_succ]
  have GD4 := Lib.hid (GD3.out.later HB4.out)
  refine wpAnyT_one 9 rfl (by kernel_rfl) (fun K hK => ?_)
  go_simp
  (go_at_call 28; refine (clone_texts G gm gc names _ GD4 onet hgm).mono ?_; rintro e w5 ⟨G5, gc5, rfl, r1, r2, r3, hb⟩; have HB5 := Lib.hid hb; have HO5 := Lib.hid r3; clear hb r3)
  refine hK.out _ _ ⟨⟨Lib.hid (hH3.1.1.out.below HB5.out hH3.1.1.out.lt), Lib.hid (hH3.1.2.out.below HB5.out hH3.1.2.out.lt)⟩, trivial⟩ (fun hH4 => ?_)
  clear hK K
  try simp only [Act.put, List.setIfInBounds_toArray, List.set_cons_zero, List.set_cons_succ]
  have BB := Lib.hid ((DD.out.trans (HB3.out.mono DD.out.size)).trans ((HB4.out.mono (by have := DD.out.size; have := HB3.out.size; omega)).trans (HB5.out.mono (by have := DD.out.size; have := HB3.out.size; have := HB4.out.size; omega))))
  have Z1 := Lib.hid ((((Z1.out.below HB3.out Z1.out.lt)).below HB4.out (by have := Z1.out.lt; have := HB3.out.size; omega)).below HB5.out (by have := Z1.out.lt; have := HB3.out.size; have := HB4.out.size; omega))
  have Z2 := Lib.hid ((((Z2.out.below HB3.out Z2.out.lt)).below HB4.out (by have := Z2.out.lt; have := HB3.out.size; omega)).below HB5.out (by have := Z2.out.lt; have := HB3.out.size; have := HB4.out.size; omega))
  refine wpAnyT_stay 10 (v := .agg #[.int .i64 2, .slice E4 em ec4, .slice G5 gm gc5]) rfl (by kernel_rfl) (fun _ _ _ h => h) (Or.inl ⟨by rfl, ?_⟩) ⟨hH4.1, fun _ => hH4.2⟩ ?_
  · (intro wx hx; go_simp <;> with_reducible rfl)
  try simp only [Act.put, List.setIfInBounds_toArray, List.set_cons_zero, List.set_cons_succ]
  refine wpAnyT_one 11 rfl (by kernel_rfl) (fun K hK => ?_)
  refine step_store_blk rfl 40 (.tmp 4) (.tmp 75) rfl (bx + 1 + 1) 40 #[.int .u64 0, .slice none 0 0, .int .i64 0, .int .i64 0, .int .u64 0, .bool false, .int .i64 0, .string ⟨#[]⟩, .slice none 0 0, .int .i64 0, .int .i64 0, .int .i64 0] (({ c with opn := true } : Cal).closed.cs n N nc 0 none 0) ?_ ?_ ?_ ?_ ?_ ?_ ?_
  · rfl
  · rfl
  · exact Z1.out
  · rfl
  · exact Try.sizeC
  · rfl
  intro w6 hB6 hO6
  refine hK.out _ _ ⟨⟨Lib.hid (hO6.out.blk hH4.1.1.out (by omega)), Lib.hid (hO6.out.blk hH4.1.2.out (by omega))⟩, trivial⟩ (fun hH5 => ?_)
  clear hK K
  try simp only [Act.put]
  refine wpAnyT_stay 12 (v := ?_) rfl (by kernel_rfl) (fun _ _ _ h => h) (Or.inl ⟨by rfl, ?_⟩) ⟨hH5.1, fun _ => hH5.2⟩ ?_
  rotate_left
  · (intro wx hx; go_simp <;> with_reducible rfl)
  try simp only [Act.put, List.setIfInBounds_toArray, List.set_cons_zero, List.set_cons_succ]
  refine wpAnyT_one 13 rfl (by kernel_rfl) (fun K hK => ?_)
  refine step_store_blk rfl 47 (.tmp 6) (.tmp 84) rfl (bx + 1 + 1 + 1) 47 (ansZ 0) #[.int .i64 2, .slice E4 em ec4, .slice G5 gm gc5] ?_ ?_ ?_ ?_ ?_ ?_ ?_
  · rfl
  · rfl
  · exact hO6.out.blk Z2.out (by omega)
  · rfl
  · exact Try.sizeA
  · rfl
  intro w7 hB7 hO7
  refine hK.out _ _ ⟨⟨Lib.hid (hO7.out.blk hH5.1.1.out (by omega)), Lib.hid (hO7.out.blk hH5.1.2.out (by omega))⟩, trivial⟩ (fun hH6 => ?_)
  clear hK K
  try simp only [Act.put]
  refine wpAnyT_done (by kernel_rfl) ?_ _
  have hbel : Below bx w w7 := (((by have := HA1.out; rwa [hbx] at this : Below bx w w1).trans (BB.out.mono (by have := HS1.out; omega))).trans (hO6.out.below (by omega))).trans (hO7.out.below (by omega))
  have hz3 : bx + 1 + 1 + 1 + 1 ≤ w3.heap.size := by have := HSD.out; have := HB3.out.size; omega
  have hz4 : bx + 1 + 1 + 1 + 1 ≤ w4.heap.size := by have := HB4.out.size; omega
  have he7 := hO7.out.own (hO6.out.own (own_below HO4.out HB5.out) (own_up HO4.out (by omega))) (own_up HO4.out (by omega))
  have hg7 := hO7.out.own (hO6.out.own HO5.out (own_up HO5.out (by omega))) (own_up HO5.out (by omega))
  have hcal : CalIn w7 c.closed n N nc 0 none 0 := ⟨h.out.nl, (h.out.nr.below (by rwa [← hbx] at hbel)).here (by omega), h.out.n1, h.out.n2, rfl, Reads.none_, Nat.le_refl _, by unfold maxLen; omega, fun x hx => by cases hx⟩
  have HF := Lib.hid (And.intro hbel (And.intro (own_base he7 (base' := bx) (by omega)) (And.intro (own_base hg7 (base' := bx) (by omega)) hcal)))
  clear hbel hz3 hz4 he7 hg7 hcal
  go_wp2
  exact bodyPost_ret (v := .tuple #[.agg (({ c with opn := true } : Cal).closed.cs n N nc 0 none 0), .slice none 0 0, .agg #[.int .i64 2, .slice E4 em ec4, .slice G5 gm gc5]]) (res_ctc Try.results10 rfl rfl rfl (load_blk (hO7.out.blk hB6.out (by omega)) Try.underlying40 rfl Try.sizeC) (load_blk hB7.out Try.underlying47 rfl Try.sizeA)) rfl ⟨E4, ec4, G5, gc5, rfl, by rw [hbx]; exact HF.out.1, p1, p2, by rw [hbx]; exact HF.out.2.1, r1, r2, by rw [hbx]; exact HF.out.2.2.1⟩
end Go.Proofs.Ytmamdnikjfmenaa
