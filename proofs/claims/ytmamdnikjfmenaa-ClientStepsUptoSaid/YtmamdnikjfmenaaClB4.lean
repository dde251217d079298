/-
  The reference's Call: refused, and where it goes.
-/
import Derived.Test.YtmamdnikjfmenaaClB2
import Derived.Test.YtmamdnikjfmenaaClB3
namespace Go.Proofs.Ytmamdnikjfmenaa
open Go.RowKit
set_option linter.unusedVariables false
set_option maxRecDepth 100000 in
set_option maxHeartbeats 1000000 in
theorem rcall_may (c : Cal) (n : Nat) (N : Option Addr) (nc m : Nat) (D : Option Addr) (dc : Nat) (kind : Int) (key : ByteArray) (E : Option Addr) (em ec : Nat) (w : World) (h : Hid (CalIn w c n N nc m D dc)) (hm : ¬ May c) :
    Calls Try.prog 15 #[.agg (c.cs n N nc m D dc), .int .i64 kind, .string key, .slice E em ec] w (RetRef (Cal.zero.cs 0 none 0 0 none 0) 2 w) := by
  have HM := Lib.hid hm
  clear hm
  unfold Cal.cs
  unfold Cal.zero
  have hb0 := (((Below.refl w.heap.size w).alloc (Nat.le_refl _) (.cells #[.int .u64 c.client, .slice N n nc, .int .i64 c.at_, .int .i64 c.turn, .int .u64 c.seq, .bool c.opn, .int .i64 c.kind, .string c.key, .slice D m dc, .int .i64 c.waited, .int .i64 c.retry, .int .i64 c.limit] 40)).alloc (by simp) (.cells #[.int .u64 0, .slice none 0 0, .int .i64 0, .int .i64 0, .int .u64 0, .bool false, .int .i64 0, .string ⟨#[]⟩, .slice none 0 0, .int .i64 0, .int .i64 0, .int .i64 0] 40)).alloc (by simp; omega) (.cells msgZ 38)
  have b0 := ((Blk.new w 40 #[.int .u64 c.client, .slice N n nc, .int .i64 c.at_, .int .i64 c.turn, .int .u64 c.seq, .bool c.opn, .int .i64 c.kind, .string c.key, .slice D m dc, .int .i64 c.waited, .int .i64 c.retry, .int .i64 c.limit]).alloc (.cells #[.int .u64 0, .slice none 0 0, .int .i64 0, .int .i64 0, .int .u64 0, .bool false, .int .i64 0, .string ⟨#[]⟩, .slice none 0 0, .int .i64 0, .int .i64 0, .int .i64 0] 40)).alloc (.cells msgZ 38)
  have b1 := (blk_second w (.cells #[.int .u64 c.client, .slice N n nc, .int .i64 c.at_, .int .i64 c.turn, .int .u64 c.seq, .bool c.opn, .int .i64 c.kind, .string c.key, .slice D m dc, .int .i64 c.waited, .int .i64 c.retry, .int .i64 c.limit] 40) 40 #[.int .u64 0, .slice none 0 0, .int .i64 0, .int .i64 0, .int .u64 0, .bool false, .int .i64 0, .string ⟨#[]⟩, .slice none 0 0, .int .i64 0, .int .i64 0, .int .i64 0]).alloc (.cells msgZ 38)
  have b2 := blk_second (w.alloc (.cells #[.int .u64 c.client, .slice N n nc, .int .i64 c.at_, .int .i64 c.turn, .int .u64 c.seq, .bool c.opn, .int .i64 c.kind, .string c.key, .slice D m dc, .int .i64 c.waited, .int .i64 c.retry, .int .i64 c.limit] 40)) (.cells #[.int .u64 0, .slice none 0 0, .int .i64 0, .int .i64 0, .int .u64 0, .bool false, .int .i64 0, .string ⟨#[]⟩, .slice none 0 0, .int .i64 0, .int .i64 0, .int .i64 0] 40) 38 msgZ
  simp only [World.size_alloc] at b2
  obtain ⟨wa, hwa⟩ : ∃ wa, ((w.alloc (.cells #[.int .u64 c.client, .slice N n nc, .int .i64 c.at_, .int .i64 c.turn, .int .u64 c.seq, .bool c.opn, .int .i64 c.kind, .string c.key, .slice D m dc, .int .i64 c.waited, .int .i64 c.retry, .int .i64 c.limit] 40)).alloc (.cells #[.int .u64 0, .slice none 0 0, .int .i64 0, .int .i64 0, .int .u64 0, .bool false, .int .i64 0, .string ⟨#[]⟩, .slice none 0 0, .int .i64 0, .int .i64 0, .int .i64 0] 40)).alloc (.cells msgZ 38) = wa := ⟨_, rfl⟩
  have hsz : wa.heap.size = w.heap.size + 1 + 1 + 1 := by rw [← hwa]; simp
  rw [hwa] at hb0 b0 b1 b2
  obtain ⟨bx, hbx⟩ : ∃ bx, w.heap.size = bx := ⟨_, rfl⟩
  have HBX := Lib.hid hbx
  rw [hbx] at b0 b1 b2 hsz
  have HS := Lib.hid hsz
  have HA := Lib.hid hb0
  have C1 := Lib.hid (h.out.later hb0)
  have Z1 := Lib.hid b1
  have Z2 := Lib.hid b2
  have X0 := Lib.hid b0
  have x5 : wa.cell? ⟨bx, 5, none⟩ = some (.bool c.opn) := b0.cell 5
  clear hsz hb0 b0 b1 b2
  unfold msgZ at hwa
  go_enter Try.func15, Try.ntmps15
  go_wp2_with (first
    | (refine wpl_load_blk rfl 40 (.tmp 4) rfl bx 40 _ _ rfl X0.out Try.underlying40 rfl Try.sizeC ?_)
    | (go_at_call 32; clear hwa; refine (rmay_no (c := c) (n := n) (N := N) (nc := nc) (m := m) (D := D) (dc := dc) C1 HM.out).mono ?_; rintro e w1 ⟨rfl, hb⟩; have HA1 := Lib.hid (HA.out.trans (hb.mono HA.out.size)); have Z1 := Lib.hid (Z1.out.below hb Z1.out.lt); have Z2 := Lib.hid (Z2.out.below hb Z2.out.lt); have X0 := Lib.hid (X0.out.below hb X0.out.lt); have HS1 := Lib.hid (show bx + 1 + 1 + 1 ≤ w1.heap.size from by have := hb.size; have := HS.out; omega); have x5 : w1.cell? ⟨bx, 5, none⟩ = some (.bool c.opn) := X0.out.cell 5; clear hb)
    | (refine wpl_store_blk rfl 40 (.tmp 8) (.tmp 14) rfl (bx + 1) 40 #[.int .u64 0, .slice none 0 0, .int .i64 0, .int .i64 0, .int .u64 0, .bool false, .int .i64 0, .string ⟨#[]⟩, .slice none 0 0, .int .i64 0, .int .i64 0, .int .i64 0] #[.int .u64 0, .slice none 0 0, .int .i64 0, .int .i64 0, .int .u64 0, .bool false, .int .i64 0, .string ⟨#[]⟩, .slice none 0 0, .int .i64 0, .int .i64 0, .int .i64 0] rfl rfl Z1.out rfl Try.sizeC rfl ?_; intro w3 hB3 hO3)
    | (refine wpl_store_blk rfl 38 (.tmp 9) (.tmp 15) rfl (bx + 1 + 1) 38 msgZ msgZ rfl rfl (hO3.out.blk Z2.out (by omega)) rfl Try.sizeM rfl ?_; intro w4 hB4 hO4))
  have hbF : Below bx w w4 := (by have := HA1.out; rwa [hbx] at this : Below bx w w1).trans ((hO3.out.below (by omega)).trans (hO4.out.below (by omega)))
  refine bodyPost_ret (v := .tuple #[.agg #[.int .u64 0, .slice none 0 0, .int .i64 0, .int .i64 0, .int .u64 0, .bool false, .int .i64 0, .string ⟨#[]⟩, .slice none 0 0, .int .i64 0, .int .i64 0, .int .i64 0], .agg msgZ, .int .i64 2]) (res_cct Try.results15 rfl rfl rfl (load_blk (hO4.out.blk hB3.out (by omega)) Try.underlying40 rfl Try.sizeC) (load_blk hB4.out Try.underlying38 rfl Try.sizeM)) rfl ⟨rfl, by rw [hbx]; exact hbF⟩
set_option maxRecDepth 100000 in
set_option maxHeartbeats 1000000 in
theorem rcall_busy (c : Cal) (n : Nat) (N : Option Addr) (nc m : Nat) (D : Option Addr) (dc : Nat) (kind : Int) (key : ByteArray) (E : Option Addr) (em ec : Nat) (w : World) (h : Hid (CalIn w c n N nc m D dc)) (hm : May c) (ho : c.opn = true) :
    Calls Try.prog 15 #[.agg (c.cs n N nc m D dc), .int .i64 kind, .string key, .slice E em ec] w (RetRef (c.cs n N nc m D dc) 131 w) := by
  have HM := Lib.hid (may_opn hm true)
  clear hm
  unfold Cal.cs
  rw [ho]
  have HO := Lib.hid ho
  clear ho
  have hb0 := (((Below.refl w.heap.size w).alloc (Nat.le_refl _) (.cells #[.int .u64 c.client, .slice N n nc, .int .i64 c.at_, .int .i64 c.turn, .int .u64 c.seq, .bool true, .int .i64 c.kind, .string c.key, .slice D m dc, .int .i64 c.waited, .int .i64 c.retry, .int .i64 c.limit] 40)).alloc (by simp) (.cells #[.int .u64 0, .slice none 0 0, .int .i64 0, .int .i64 0, .int .u64 0, .bool false, .int .i64 0, .string ⟨#[]⟩, .slice none 0 0, .int .i64 0, .int .i64 0, .int .i64 0] 40)).alloc (by simp; omega) (.cells msgZ 38)
  have b0 := ((Blk.new w 40 #[.int .u64 c.client, .slice N n nc, .int .i64 c.at_, .int .i64 c.turn, .int .u64 c.seq, .bool true, .int .i64 c.kind, .string c.key, .slice D m dc, .int .i64 c.waited, .int .i64 c.retry, .int .i64 c.limit]).alloc (.cells #[.int .u64 0, .slice none 0 0, .int .i64 0, .int .i64 0, .int .u64 0, .bool false, .int .i64 0, .string ⟨#[]⟩, .slice none 0 0, .int .i64 0, .int .i64 0, .int .i64 0] 40)).alloc (.cells msgZ 38)
  have b1 := (blk_second w (.cells #[.int .u64 c.client, .slice N n nc, .int .i64 c.at_, .int .i64 c.turn, .int .u64 c.seq, .bool true, .int .i64 c.kind, .string c.key, .slice D m dc, .int .i64 c.waited, .int .i64 c.retry, .int .i64 c.limit] 40) 40 #[.int .u64 0, .slice none 0 0, .int .i64 0, .int .i64 0, .int .u64 0, .bool false, .int .i64 0, .string ⟨#[]⟩, .slice none 0 0, .int .i64 0, .int .i64 0, .int .i64 0]).alloc (.cells msgZ 38)
  have b2 := blk_second (w.alloc (.cells #[.int .u64 c.client, .slice N n nc, .int .i64 c.at_, .int .i64 c.turn, .int .u64 c.seq, .bool true, .int .i64 c.kind, .string c.key, .slice D m dc, .int .i64 c.waited, .int .i64 c.retry, .int .i64 c.limit] 40)) (.cells #[.int .u64 0, .slice none 0 0, .int .i64 0, .int .i64 0, .int .u64 0, .bool false, .int .i64 0, .string ⟨#[]⟩, .slice none 0 0, .int .i64 0, .int .i64 0, .int .i64 0] 40) 38 msgZ
  simp only [World.size_alloc] at b2
  obtain ⟨wa, hwa⟩ : ∃ wa, ((w.alloc (.cells #[.int .u64 c.client, .slice N n nc, .int .i64 c.at_, .int .i64 c.turn, .int .u64 c.seq, .bool true, .int .i64 c.kind, .string c.key, .slice D m dc, .int .i64 c.waited, .int .i64 c.retry, .int .i64 c.limit] 40)).alloc (.cells #[.int .u64 0, .slice none 0 0, .int .i64 0, .int .i64 0, .int .u64 0, .bool false, .int .i64 0, .string ⟨#[]⟩, .slice none 0 0, .int .i64 0, .int .i64 0, .int .i64 0] 40)).alloc (.cells msgZ 38) = wa := ⟨_, rfl⟩
  have hsz : wa.heap.size = w.heap.size + 1 + 1 + 1 := by rw [← hwa]; simp
  rw [hwa] at hb0 b0 b1 b2
  obtain ⟨bx, hbx⟩ : ∃ bx, w.heap.size = bx := ⟨_, rfl⟩
  have HBX := Lib.hid hbx
  rw [hbx] at b0 b1 b2 hsz
  have HS := Lib.hid hsz
  have HA := Lib.hid hb0
  have C1 := Lib.hid ((calin_opn h.out true).later hb0)
  have Z1 := Lib.hid b1
  have Z2 := Lib.hid b2
  have X0 := Lib.hid b0
  have x5 : wa.cell? ⟨bx, 5, none⟩ = some (.bool true) := b0.cell 5
  clear hsz hb0 b0 b1 b2
  unfold msgZ at hwa
  go_enter Try.func15, Try.ntmps15
  go_wp2_with (first
    | (refine wpl_load_blk rfl 40 (.tmp 4) rfl bx 40 _ _ rfl X0.out Try.underlying40 rfl Try.sizeC ?_)
    | (go_at_call 32; clear hwa; refine (rmay_yes (c := { c with opn := true }) (n := n) (N := N) (nc := nc) (m := m) (D := D) (dc := dc) C1 HM.out).mono ?_; rintro e w1 ⟨rfl, hb⟩; have HA1 := Lib.hid (HA.out.trans (hb.mono HA.out.size)); have Z1 := Lib.hid (Z1.out.below hb Z1.out.lt); have Z2 := Lib.hid (Z2.out.below hb Z2.out.lt); have X0 := Lib.hid (X0.out.below hb X0.out.lt); have HS1 := Lib.hid (show bx + 1 + 1 + 1 ≤ w1.heap.size from by have := hb.size; have := HS.out; omega); have x5 : w1.cell? ⟨bx, 5, none⟩ = some (.bool true) := X0.out.cell 5; clear hb)
    | (refine wpl_store_blk rfl 40 (.tmp 8) (.tmp 18) rfl (bx + 1) 40 #[.int .u64 0, .slice none 0 0, .int .i64 0, .int .i64 0, .int .u64 0, .bool false, .int .i64 0, .string ⟨#[]⟩, .slice none 0 0, .int .i64 0, .int .i64 0, .int .i64 0] #[.int .u64 c.client, .slice N n nc, .int .i64 c.at_, .int .i64 c.turn, .int .u64 c.seq, .bool true, .int .i64 c.kind, .string c.key, .slice D m dc, .int .i64 c.waited, .int .i64 c.retry, .int .i64 c.limit] rfl rfl Z1.out rfl Try.sizeC rfl ?_; intro w3 hB3 hO3)
    | (refine wpl_store_blk rfl 38 (.tmp 9) (.tmp 19) rfl (bx + 1 + 1) 38 msgZ msgZ rfl rfl (hO3.out.blk Z2.out (by omega)) rfl Try.sizeM rfl ?_; intro w4 hB4 hO4))
  have hbF : Below bx w w4 := (by have := HA1.out; rwa [hbx] at this : Below bx w w1).trans ((hO3.out.below (by omega)).trans (hO4.out.below (by omega)))
  refine bodyPost_ret (v := .tuple #[.agg #[.int .u64 c.client, .slice N n nc, .int .i64 c.at_, .int .i64 c.turn, .int .u64 c.seq, .bool true, .int .i64 c.kind, .string c.key, .slice D m dc, .int .i64 c.waited, .int .i64 c.retry, .int .i64 c.limit], .agg msgZ, .int .i64 131]) (res_cct Try.results15 rfl rfl rfl (load_blk (hO4.out.blk hB3.out (by omega)) Try.underlying40 rfl Try.sizeC) (load_blk hB4.out Try.underlying38 rfl Try.sizeM)) rfl ⟨rfl, by rw [hbx]; exact hbF⟩
set_option maxRecDepth 100000 in
set_option maxHeartbeats 1000000 in
theorem rcall_bad1 (c : Cal) (n : Nat) (N : Option Addr) (nc m : Nat) (D : Option Addr) (dc : Nat) (kind : Int) (key : ByteArray) (E : Option Addr) (em ec : Nat) (w : World) (h : Hid (CalIn w c n N nc m D dc)) (hm : May c) (ho : c.opn = false) (f1 : kind < 1) :
    Calls Try.prog 15 #[.agg (c.cs n N nc m D dc), .int .i64 kind, .string key, .slice E em ec] w (RetRef (c.cs n N nc m D dc) 2 w) := by
  have HM := Lib.hid (may_opn hm false)
  clear hm
  unfold Cal.cs
  rw [ho]
  have HO := Lib.hid ho
  clear ho
  have hb0 := (((Below.refl w.heap.size w).alloc (Nat.le_refl _) (.cells #[.int .u64 c.client, .slice N n nc, .int .i64 c.at_, .int .i64 c.turn, .int .u64 c.seq, .bool false, .int .i64 c.kind, .string c.key, .slice D m dc, .int .i64 c.waited, .int .i64 c.retry, .int .i64 c.limit] 40)).alloc (by simp) (.cells #[.int .u64 0, .slice none 0 0, .int .i64 0, .int .i64 0, .int .u64 0, .bool false, .int .i64 0, .string ⟨#[]⟩, .slice none 0 0, .int .i64 0, .int .i64 0, .int .i64 0] 40)).alloc (by simp; omega) (.cells msgZ 38)
  have b0 := ((Blk.new w 40 #[.int .u64 c.client, .slice N n nc, .int .i64 c.at_, .int .i64 c.turn, .int .u64 c.seq, .bool false, .int .i64 c.kind, .string c.key, .slice D m dc, .int .i64 c.waited, .int .i64 c.retry, .int .i64 c.limit]).alloc (.cells #[.int .u64 0, .slice none 0 0, .int .i64 0, .int .i64 0, .int .u64 0, .bool false, .int .i64 0, .string ⟨#[]⟩, .slice none 0 0, .int .i64 0, .int .i64 0, .int .i64 0] 40)).alloc (.cells msgZ 38)
  have b1 := (blk_second w (.cells #[.int .u64 c.client, .slice N n nc, .int .i64 c.at_, .int .i64 c.turn, .int .u64 c.seq, .bool false, .int .i64 c.kind, .string c.key, .slice D m dc, .int .i64 c.waited, .int .i64 c.retry, .int .i64 c.limit] 40) 40 #[.int .u64 0, .slice none 0 0, .int .i64 0, .int .i64 0, .int .u64 0, .bool false, .int .i64 0, .string ⟨#[]⟩, .slice none 0 0, .int .i64 0, .int .i64 0, .int .i64 0]).alloc (.cells msgZ 38)
  have b2 := blk_second (w.alloc (.cells #[.int .u64 c.client, .slice N n nc, .int .i64 c.at_, .int .i64 c.turn, .int .u64 c.seq, .bool false, .int .i64 c.kind, .string c.key, .slice D m dc, .int .i64 c.waited, .int .i64 c.retry, .int .i64 c.limit] 40)) (.cells #[.int .u64 0, .slice none 0 0, .int .i64 0, .int .i64 0, .int .u64 0, .bool false, .int .i64 0, .string ⟨#[]⟩, .slice none 0 0, .int .i64 0, .int .i64 0, .int .i64 0] 40) 38 msgZ
  simp only [World.size_alloc] at b2
  obtain ⟨wa, hwa⟩ : ∃ wa, ((w.alloc (.cells #[.int .u64 c.client, .slice N n nc, .int .i64 c.at_, .int .i64 c.turn, .int .u64 c.seq, .bool false, .int .i64 c.kind, .string c.key, .slice D m dc, .int .i64 c.waited, .int .i64 c.retry, .int .i64 c.limit] 40)).alloc (.cells #[.int .u64 0, .slice none 0 0, .int .i64 0, .int .i64 0, .int .u64 0, .bool false, .int .i64 0, .string ⟨#[]⟩, .slice none 0 0, .int .i64 0, .int .i64 0, .int .i64 0] 40)).alloc (.cells msgZ 38) = wa := ⟨_, rfl⟩
  have hsz : wa.heap.size = w.heap.size + 1 + 1 + 1 := by rw [← hwa]; simp
  rw [hwa] at hb0 b0 b1 b2
  obtain ⟨bx, hbx⟩ : ∃ bx, w.heap.size = bx := ⟨_, rfl⟩
  have HBX := Lib.hid hbx
  rw [hbx] at b0 b1 b2 hsz
  have HS := Lib.hid hsz
  have HA := Lib.hid hb0
  have C1 := Lib.hid ((calin_opn h.out false).later hb0)
  have Z1 := Lib.hid b1
  have Z2 := Lib.hid b2
  have X0 := Lib.hid b0
  have x5 : wa.cell? ⟨bx, 5, none⟩ = some (.bool false) := b0.cell 5
  clear hsz hb0 b0 b1 b2
  unfold msgZ at hwa
  go_enter Try.func15, Try.ntmps15
  go_wp2_with (first
    | (refine wpl_load_blk rfl 40 (.tmp 4) rfl bx 40 _ _ rfl X0.out Try.underlying40 rfl Try.sizeC ?_)
    | (go_at_call 32; clear hwa; refine (rmay_yes (c := { c with opn := false }) (n := n) (N := N) (nc := nc) (m := m) (D := D) (dc := dc) C1 HM.out).mono ?_; rintro e w1 ⟨rfl, hb⟩; have HA1 := Lib.hid (HA.out.trans (hb.mono HA.out.size)); have Z1 := Lib.hid (Z1.out.below hb Z1.out.lt); have Z2 := Lib.hid (Z2.out.below hb Z2.out.lt); have X0 := Lib.hid (X0.out.below hb X0.out.lt); have HS1 := Lib.hid (show bx + 1 + 1 + 1 ≤ w1.heap.size from by have := hb.size; have := HS.out; omega); have x5 : w1.cell? ⟨bx, 5, none⟩ = some (.bool false) := X0.out.cell 5; clear hb)
    | (refine wpl_store_blk rfl 40 (.tmp 8) (.tmp 52) rfl (bx + 1) 40 #[.int .u64 0, .slice none 0 0, .int .i64 0, .int .i64 0, .int .u64 0, .bool false, .int .i64 0, .string ⟨#[]⟩, .slice none 0 0, .int .i64 0, .int .i64 0, .int .i64 0] #[.int .u64 c.client, .slice N n nc, .int .i64 c.at_, .int .i64 c.turn, .int .u64 c.seq, .bool false, .int .i64 c.kind, .string c.key, .slice D m dc, .int .i64 c.waited, .int .i64 c.retry, .int .i64 c.limit] rfl rfl Z1.out rfl Try.sizeC rfl ?_; intro w3 hB3 hO3)
    | (refine wpl_store_blk rfl 38 (.tmp 9) (.tmp 53) rfl (bx + 1 + 1) 38 msgZ msgZ rfl rfl (hO3.out.blk Z2.out (by omega)) rfl Try.sizeM rfl ?_; intro w4 hB4 hO4))
  have hbF : Below bx w w4 := (by have := HA1.out; rwa [hbx] at this : Below bx w w1).trans ((hO3.out.below (by omega)).trans (hO4.out.below (by omega)))
  refine bodyPost_ret (v := .tuple #[.agg #[.int .u64 c.client, .slice N n nc, .int .i64 c.at_, .int .i64 c.turn, .int .u64 c.seq, .bool false, .int .i64 c.kind, .string c.key, .slice D m dc, .int .i64 c.waited, .int .i64 c.retry, .int .i64 c.limit], .agg msgZ, .int .i64 2]) (res_cct Try.results15 rfl rfl rfl (load_blk (hO4.out.blk hB3.out (by omega)) Try.underlying40 rfl Try.sizeC) (load_blk hB4.out Try.underlying38 rfl Try.sizeM)) rfl ⟨rfl, by rw [hbx]; exact hbF⟩
set_option maxRecDepth 100000 in
set_option maxHeartbeats 1000000 in
theorem rcall_bad2 (c : Cal) (n : Nat) (N : Option Addr) (nc m : Nat) (D : Option Addr) (dc : Nat) (kind : Int) (key : ByteArray) (E : Option Addr) (em ec : Nat) (w : World) (h : Hid (CalIn w c n N nc m D dc)) (hm : May c) (ho : c.opn = false) (f1 : 1 ≤ kind) (f2 : 4 < kind) :
    Calls Try.prog 15 #[.agg (c.cs n N nc m D dc), .int .i64 kind, .string key, .slice E em ec] w (RetRef (c.cs n N nc m D dc) 2 w) := by
  have HM := Lib.hid (may_opn hm false)
  clear hm
  unfold Cal.cs
  rw [ho]
  have HO := Lib.hid ho
  clear ho
  have hb0 := (((Below.refl w.heap.size w).alloc (Nat.le_refl _) (.cells #[.int .u64 c.client, .slice N n nc, .int .i64 c.at_, .int .i64 c.turn, .int .u64 c.seq, .bool false, .int .i64 c.kind, .string c.key, .slice D m dc, .int .i64 c.waited, .int .i64 c.retry, .int .i64 c.limit] 40)).alloc (by simp) (.cells #[.int .u64 0, .slice none 0 0, .int .i64 0, .int .i64 0, .int .u64 0, .bool false, .int .i64 0, .string ⟨#[]⟩, .slice none 0 0, .int .i64 0, .int .i64 0, .int .i64 0] 40)).alloc (by simp; omega) (.cells msgZ 38)
  have b0 := ((Blk.new w 40 #[.int .u64 c.client, .slice N n nc, .int .i64 c.at_, .int .i64 c.turn, .int .u64 c.seq, .bool false, .int .i64 c.kind, .string c.key, .slice D m dc, .int .i64 c.waited, .int .i64 c.retry, .int .i64 c.limit]).alloc (.cells #[.int .u64 0, .slice none 0 0, .int .i64 0, .int .i64 0, .int .u64 0, .bool false, .int .i64 0, .string ⟨#[]⟩, .slice none 0 0, .int .i64 0, .int .i64 0, .int .i64 0] 40)).alloc (.cells msgZ 38)
  have b1 := (blk_second w (.cells #[.int .u64 c.client, .slice N n nc, .int .i64 c.at_, .int .i64 c.turn, .int .u64 c.seq, .bool false, .int .i64 c.kind, .string c.key, .slice D m dc, .int .i64 c.waited, .int .i64 c.retry, .int .i64 c.limit] 40) 40 #[.int .u64 0, .slice none 0 0, .int .i64 0, .int .i64 0, .int .u64 0, .bool false, .int .i64 0, .string ⟨#[]⟩, .slice none 0 0, .int .i64 0, .int .i64 0, .int .i64 0]).alloc (.cells msgZ 38)
  have b2 := blk_second (w.alloc (.cells #[.int .u64 c.client, .slice N n nc, .int .i64 c.at_, .int .i64 c.turn, .int .u64 c.seq, .bool false, .int .i64 c.kind, .string c.key, .slice D m dc, .int .i64 c.waited, .int .i64 c.retry, .int .i64 c.limit] 40)) (.cells #[.int .u64 0, .slice none 0 0, .int .i64 0, .int .i64 0, .int .u64 0, .bool false, .int .i64 0, .string ⟨#[]⟩, .slice none 0 0, .int .i64 0, .int .i64 0, .int .i64 0] 40) 38 msgZ
  simp only [World.size_alloc] at b2
  obtain ⟨wa, hwa⟩ : ∃ wa, ((w.alloc (.cells #[.int .u64 c.client, .slice N n nc, .int .i64 c.at_, .int .i64 c.turn, .int .u64 c.seq, .bool false, .int .i64 c.kind, .string c.key, .slice D m dc, .int .i64 c.waited, .int .i64 c.retry, .int .i64 c.limit] 40)).alloc (.cells #[.int .u64 0, .slice none 0 0, .int .i64 0, .int .i64 0, .int .u64 0, .bool false, .int .i64 0, .string ⟨#[]⟩, .slice none 0 0, .int .i64 0, .int .i64 0, .int .i64 0] 40)).alloc (.cells msgZ 38) = wa := ⟨_, rfl⟩
  have hsz : wa.heap.size = w.heap.size + 1 + 1 + 1 := by rw [← hwa]; simp
  rw [hwa] at hb0 b0 b1 b2
  obtain ⟨bx, hbx⟩ : ∃ bx, w.heap.size = bx := ⟨_, rfl⟩
  have HBX := Lib.hid hbx
  rw [hbx] at b0 b1 b2 hsz
  have HS := Lib.hid hsz
  have HA := Lib.hid hb0
  have C1 := Lib.hid ((calin_opn h.out false).later hb0)
  have Z1 := Lib.hid b1
  have Z2 := Lib.hid b2
  have X0 := Lib.hid b0
  have x5 : wa.cell? ⟨bx, 5, none⟩ = some (.bool false) := b0.cell 5
  clear hsz hb0 b0 b1 b2
  unfold msgZ at hwa
  go_enter Try.func15, Try.ntmps15
  go_wp2_with (first
    | (refine wpl_load_blk rfl 40 (.tmp 4) rfl bx 40 _ _ rfl X0.out Try.underlying40 rfl Try.sizeC ?_)
    | (go_at_call 32; clear hwa; refine (rmay_yes (c := { c with opn := false }) (n := n) (N := N) (nc := nc) (m := m) (D := D) (dc := dc) C1 HM.out).mono ?_; rintro e w1 ⟨rfl, hb⟩; have HA1 := Lib.hid (HA.out.trans (hb.mono HA.out.size)); have Z1 := Lib.hid (Z1.out.below hb Z1.out.lt); have Z2 := Lib.hid (Z2.out.below hb Z2.out.lt); have X0 := Lib.hid (X0.out.below hb X0.out.lt); have HS1 := Lib.hid (show bx + 1 + 1 + 1 ≤ w1.heap.size from by have := hb.size; have := HS.out; omega); have x5 : w1.cell? ⟨bx, 5, none⟩ = some (.bool false) := X0.out.cell 5; clear hb)
    | (refine wpl_store_blk rfl 40 (.tmp 8) (.tmp 52) rfl (bx + 1) 40 #[.int .u64 0, .slice none 0 0, .int .i64 0, .int .i64 0, .int .u64 0, .bool false, .int .i64 0, .string ⟨#[]⟩, .slice none 0 0, .int .i64 0, .int .i64 0, .int .i64 0] #[.int .u64 c.client, .slice N n nc, .int .i64 c.at_, .int .i64 c.turn, .int .u64 c.seq, .bool false, .int .i64 c.kind, .string c.key, .slice D m dc, .int .i64 c.waited, .int .i64 c.retry, .int .i64 c.limit] rfl rfl Z1.out rfl Try.sizeC rfl ?_; intro w3 hB3 hO3)
    | (refine wpl_store_blk rfl 38 (.tmp 9) (.tmp 53) rfl (bx + 1 + 1) 38 msgZ msgZ rfl rfl (hO3.out.blk Z2.out (by omega)) rfl Try.sizeM rfl ?_; intro w4 hB4 hO4))
  have hbF : Below bx w w4 := (by have := HA1.out; rwa [hbx] at this : Below bx w w1).trans ((hO3.out.below (by omega)).trans (hO4.out.below (by omega)))
  refine bodyPost_ret (v := .tuple #[.agg #[.int .u64 c.client, .slice N n nc, .int .i64 c.at_, .int .i64 c.turn, .int .u64 c.seq, .bool false, .int .i64 c.kind, .string c.key, .slice D m dc, .int .i64 c.waited, .int .i64 c.retry, .int .i64 c.limit], .agg msgZ, .int .i64 2]) (res_cct Try.results15 rfl rfl rfl (load_blk (hO4.out.blk hB3.out (by omega)) Try.underlying40 rfl Try.sizeC) (load_blk hB4.out Try.underlying38 rfl Try.sizeM)) rfl ⟨rfl, by rw [hbx]; exact hbF⟩
set_option maxRecDepth 100000 in
set_option maxHeartbeats 1000000 in
theorem rcall_bad3 (c : Cal) (n : Nat) (N : Option Addr) (nc m : Nat) (D : Option Addr) (dc : Nat) (kind : Int) (key : ByteArray) (E : Option Addr) (em ec : Nat) (w : World) (h : Hid (CalIn w c n N nc m D dc)) (hm : May c) (ho : c.opn = false) (f1 : 1 ≤ kind) (f2 : kind ≤ 4) (f3 : 64 < key.size) (f4 : key.size ≤ maxLen) :
    Calls Try.prog 15 #[.agg (c.cs n N nc m D dc), .int .i64 kind, .string key, .slice E em ec] w (RetRef (c.cs n N nc m D dc) 2 w) := by
  unfold maxLen at f4
  have HM := Lib.hid (may_opn hm false)
  clear hm
  unfold Cal.cs
  rw [ho]
  have HO := Lib.hid ho
  clear ho
  have hb0 := (((Below.refl w.heap.size w).alloc (Nat.le_refl _) (.cells #[.int .u64 c.client, .slice N n nc, .int .i64 c.at_, .int .i64 c.turn, .int .u64 c.seq, .bool false, .int .i64 c.kind, .string c.key, .slice D m dc, .int .i64 c.waited, .int .i64 c.retry, .int .i64 c.limit] 40)).alloc (by simp) (.cells #[.int .u64 0, .slice none 0 0, .int .i64 0, .int .i64 0, .int .u64 0, .bool false, .int .i64 0, .string ⟨#[]⟩, .slice none 0 0, .int .i64 0, .int .i64 0, .int .i64 0] 40)).alloc (by simp; omega) (.cells msgZ 38)
  have b0 := ((Blk.new w 40 #[.int .u64 c.client, .slice N n nc, .int .i64 c.at_, .int .i64 c.turn, .int .u64 c.seq, .bool false, .int .i64 c.kind, .string c.key, .slice D m dc, .int .i64 c.waited, .int .i64 c.retry, .int .i64 c.limit]).alloc (.cells #[.int .u64 0, .slice none 0 0, .int .i64 0, .int .i64 0, .int .u64 0, .bool false, .int .i64 0, .string ⟨#[]⟩, .slice none 0 0, .int .i64 0, .int .i64 0, .int .i64 0] 40)).alloc (.cells msgZ 38)
  have b1 := (blk_second w (.cells #[.int .u64 c.client, .slice N n nc, .int .i64 c.at_, .int .i64 c.turn, .int .u64 c.seq, .bool false, .int .i64 c.kind, .string c.key, .slice D m dc, .int .i64 c.waited, .int .i64 c.retry, .int .i64 c.limit] 40) 40 #[.int .u64 0, .slice none 0 0, .int .i64 0, .int .i64 0, .int .u64 0, .bool false, .int .i64 0, .string ⟨#[]⟩, .slice none 0 0, .int .i64 0, .int .i64 0, .int .i64 0]).alloc (.cells msgZ 38)
  have b2 := blk_second (w.alloc (.cells #[.int .u64 c.client, .slice N n nc, .int .i64 c.at_, .int .i64 c.turn, .int .u64 c.seq, .bool false, .int .i64 c.kind, .string c.key, .slice D m dc, .int .i64 c.waited, .int .i64 c.retry, .int .i64 c.limit] 40)) (.cells #[.int .u64 0, .slice none 0 0, .int .i64 0, .int .i64 0, .int .u64 0, .bool false, .int .i64 0, .string ⟨#[]⟩, .slice none 0 0, .int .i64 0, .int .i64 0, .int .i64 0] 40) 38 msgZ
  simp only [World.size_alloc] at b2
  obtain ⟨wa, hwa⟩ : ∃ wa, ((w.alloc (.cells #[.int .u64 c.client, .slice N n nc, .int .i64 c.at_, .int .i64 c.turn, .int .u64 c.seq, .bool false, .int .i64 c.kind, .string c.key, .slice D m dc, .int .i64 c.waited, .int .i64 c.retry, .int .i64 c.limit] 40)).alloc (.cells #[.int .u64 0, .slice none 0 0, .int .i64 0, .int .i64 0, .int .u64 0, .bool false, .int .i64 0, .string ⟨#[]⟩, .slice none 0 0, .int .i64 0, .int .i64 0, .int .i64 0] 40)).alloc (.cells msgZ 38) = wa := ⟨_, rfl⟩
  have hsz : wa.heap.size = w.heap.size + 1 + 1 + 1 := by rw [← hwa]; simp
  rw [hwa] at hb0 b0 b1 b2
  obtain ⟨bx, hbx⟩ : ∃ bx, w.heap.size = bx := ⟨_, rfl⟩
  have HBX := Lib.hid hbx
  rw [hbx] at b0 b1 b2 hsz
  have HS := Lib.hid hsz
  have HA := Lib.hid hb0
  have C1 := Lib.hid ((calin_opn h.out false).later hb0)
  have Z1 := Lib.hid b1
  have Z2 := Lib.hid b2
  have X0 := Lib.hid b0
  have x5 : wa.cell? ⟨bx, 5, none⟩ = some (.bool false) := b0.cell 5
  clear hsz hb0 b0 b1 b2
  unfold msgZ at hwa
  go_enter Try.func15, Try.ntmps15
  go_wp2_with (first
    | (refine wpl_load_blk rfl 40 (.tmp 4) rfl bx 40 _ _ rfl X0.out Try.underlying40 rfl Try.sizeC ?_)
    | (go_at_call 32; clear hwa; refine (rmay_yes (c := { c with opn := false }) (n := n) (N := N) (nc := nc) (m := m) (D := D) (dc := dc) C1 HM.out).mono ?_; rintro e w1 ⟨rfl, hb⟩; have HA1 := Lib.hid (HA.out.trans (hb.mono HA.out.size)); have Z1 := Lib.hid (Z1.out.below hb Z1.out.lt); have Z2 := Lib.hid (Z2.out.below hb Z2.out.lt); have X0 := Lib.hid (X0.out.below hb X0.out.lt); have HS1 := Lib.hid (show bx + 1 + 1 + 1 ≤ w1.heap.size from by have := hb.size; have := HS.out; omega); have x5 : w1.cell? ⟨bx, 5, none⟩ = some (.bool false) := X0.out.cell 5; clear hb)
    | (refine wpl_store_blk rfl 40 (.tmp 8) (.tmp 52) rfl (bx + 1) 40 #[.int .u64 0, .slice none 0 0, .int .i64 0, .int .i64 0, .int .u64 0, .bool false, .int .i64 0, .string ⟨#[]⟩, .slice none 0 0, .int .i64 0, .int .i64 0, .int .i64 0] #[.int .u64 c.client, .slice N n nc, .int .i64 c.at_, .int .i64 c.turn, .int .u64 c.seq, .bool false, .int .i64 c.kind, .string c.key, .slice D m dc, .int .i64 c.waited, .int .i64 c.retry, .int .i64 c.limit] rfl rfl Z1.out rfl Try.sizeC rfl ?_; intro w3 hB3 hO3)
    | (refine wpl_store_blk rfl 38 (.tmp 9) (.tmp 53) rfl (bx + 1 + 1) 38 msgZ msgZ rfl rfl (hO3.out.blk Z2.out (by omega)) rfl Try.sizeM rfl ?_; intro w4 hB4 hO4))
  have hbF : Below bx w w4 := (by have := HA1.out; rwa [hbx] at this : Below bx w w1).trans ((hO3.out.below (by omega)).trans (hO4.out.below (by omega)))
  refine bodyPost_ret (v := .tuple #[.agg #[.int .u64 c.client, .slice N n nc, .int .i64 c.at_, .int .i64 c.turn, .int .u64 c.seq, .bool false, .int .i64 c.kind, .string c.key, .slice D m dc, .int .i64 c.waited, .int .i64 c.retry, .int .i64 c.limit], .agg msgZ, .int .i64 2]) (res_cct Try.results15 rfl rfl rfl (load_blk (hO4.out.blk hB3.out (by omega)) Try.underlying40 rfl Try.sizeC) (load_blk hB4.out Try.underlying38 rfl Try.sizeM)) rfl ⟨rfl, by rw [hbx]; exact hbF⟩
set_option maxRecDepth 100000 in
set_option maxHeartbeats 1000000 in
theorem rcall_bad4 (c : Cal) (n : Nat) (N : Option Addr) (nc m : Nat) (D : Option Addr) (dc : Nat) (key : ByteArray) (E : Option Addr) (em ec : Nat) (w : World) (h : Hid (CalIn w c n N nc m D dc)) (hm : May c) (ho : c.opn = false) (f3 : key.size ≤ 64) (hp : 0 < key.size) :
    Calls Try.prog 15 #[.agg (c.cs n N nc m D dc), .int .i64 4, .string key, .slice E em ec] w (RetRef (c.cs n N nc m D dc) 2 w) := by
  have n1 := key_some hp
  have n2 := key_full hp
  have HM := Lib.hid (may_opn hm false)
  clear hm
  unfold Cal.cs
  rw [ho]
  have HO := Lib.hid ho
  clear ho
  have hb0 := (((Below.refl w.heap.size w).alloc (Nat.le_refl _) (.cells #[.int .u64 c.client, .slice N n nc, .int .i64 c.at_, .int .i64 c.turn, .int .u64 c.seq, .bool false, .int .i64 c.kind, .string c.key, .slice D m dc, .int .i64 c.waited, .int .i64 c.retry, .int .i64 c.limit] 40)).alloc (by simp) (.cells #[.int .u64 0, .slice none 0 0, .int .i64 0, .int .i64 0, .int .u64 0, .bool false, .int .i64 0, .string ⟨#[]⟩, .slice none 0 0, .int .i64 0, .int .i64 0, .int .i64 0] 40)).alloc (by simp; omega) (.cells msgZ 38)
  have b0 := ((Blk.new w 40 #[.int .u64 c.client, .slice N n nc, .int .i64 c.at_, .int .i64 c.turn, .int .u64 c.seq, .bool false, .int .i64 c.kind, .string c.key, .slice D m dc, .int .i64 c.waited, .int .i64 c.retry, .int .i64 c.limit]).alloc (.cells #[.int .u64 0, .slice none 0 0, .int .i64 0, .int .i64 0, .int .u64 0, .bool false, .int .i64 0, .string ⟨#[]⟩, .slice none 0 0, .int .i64 0, .int .i64 0, .int .i64 0] 40)).alloc (.cells msgZ 38)
  have b1 := (blk_second w (.cells #[.int .u64 c.client, .slice N n nc, .int .i64 c.at_, .int .i64 c.turn, .int .u64 c.seq, .bool false, .int .i64 c.kind, .string c.key, .slice D m dc, .int .i64 c.waited, .int .i64 c.retry, .int .i64 c.limit] 40) 40 #[.int .u64 0, .slice none 0 0, .int .i64 0, .int .i64 0, .int .u64 0, .bool false, .int .i64 0, .string ⟨#[]⟩, .slice none 0 0, .int .i64 0, .int .i64 0, .int .i64 0]).alloc (.cells msgZ 38)
  have b2 := blk_second (w.alloc (.cells #[.int .u64 c.client, .slice N n nc, .int .i64 c.at_, .int .i64 c.turn, .int .u64 c.seq, .bool false, .int .i64 c.kind, .string c.key, .slice D m dc, .int .i64 c.waited, .int .i64 c.retry, .int .i64 c.limit] 40)) (.cells #[.int .u64 0, .slice none 0 0, .int .i64 0, .int .i64 0, .int .u64 0, .bool false, .int .i64 0, .string ⟨#[]⟩, .slice none 0 0, .int .i64 0, .int .i64 0, .int .i64 0] 40) 38 msgZ
  simp only [World.size_alloc] at b2
  obtain ⟨wa, hwa⟩ : ∃ wa, ((w.alloc (.cells #[.int .u64 c.client, .slice N n nc, .int .i64 c.at_, .int .i64 c.turn, .int .u64 c.seq, .bool false, .int .i64 c.kind, .string c.key, .slice D m dc, .int .i64 c.waited, .int .i64 c.retry, .int .i64 c.limit] 40)).alloc (.cells #[.int .u64 0, .slice none 0 0, .int .i64 0, .int .i64 0, .int .u64 0, .bool false, .int .i64 0, .string ⟨#[]⟩, .slice none 0 0, .int .i64 0, .int .i64 0, .int .i64 0] 40)).alloc (.cells msgZ 38) = wa := ⟨_, rfl⟩
  have hsz : wa.heap.size = w.heap.size + 1 + 1 + 1 := by rw [← hwa]; simp
  rw [hwa] at hb0 b0 b1 b2
  obtain ⟨bx, hbx⟩ : ∃ bx, w.heap.size = bx := ⟨_, rfl⟩
  have HBX := Lib.hid hbx
  rw [hbx] at b0 b1 b2 hsz
  have HS := Lib.hid hsz
  have HA := Lib.hid hb0
  have C1 := Lib.hid ((calin_opn h.out false).later hb0)
  have Z1 := Lib.hid b1
  have Z2 := Lib.hid b2
  have X0 := Lib.hid b0
  have x5 : wa.cell? ⟨bx, 5, none⟩ = some (.bool false) := b0.cell 5
  clear hsz hb0 b0 b1 b2
  unfold msgZ at hwa
  go_enter Try.func15, Try.ntmps15
  go_wp2_with (first
    | (refine wpl_load_blk rfl 40 (.tmp 4) rfl bx 40 _ _ rfl X0.out Try.underlying40 rfl Try.sizeC ?_)
    | (go_at_call 32; clear hwa; refine (rmay_yes (c := { c with opn := false }) (n := n) (N := N) (nc := nc) (m := m) (D := D) (dc := dc) C1 HM.out).mono ?_; rintro e w1 ⟨rfl, hb⟩; have HA1 := Lib.hid (HA.out.trans (hb.mono HA.out.size)); have Z1 := Lib.hid (Z1.out.below hb Z1.out.lt); have Z2 := Lib.hid (Z2.out.below hb Z2.out.lt); have X0 := Lib.hid (X0.out.below hb X0.out.lt); have HS1 := Lib.hid (show bx + 1 + 1 + 1 ≤ w1.heap.size from by have := hb.size; have := HS.out; omega); have x5 : w1.cell? ⟨bx, 5, none⟩ = some (.bool false) := X0.out.cell 5; clear hb)
    | (refine wpl_store_blk rfl 40 (.tmp 8) (.tmp 52) rfl (bx + 1) 40 #[.int .u64 0, .slice none 0 0, .int .i64 0, .int .i64 0, .int .u64 0, .bool false, .int .i64 0, .string ⟨#[]⟩, .slice none 0 0, .int .i64 0, .int .i64 0, .int .i64 0] #[.int .u64 c.client, .slice N n nc, .int .i64 c.at_, .int .i64 c.turn, .int .u64 c.seq, .bool false, .int .i64 c.kind, .string c.key, .slice D m dc, .int .i64 c.waited, .int .i64 c.retry, .int .i64 c.limit] rfl rfl Z1.out rfl Try.sizeC rfl ?_; intro w3 hB3 hO3)
    | (refine wpl_store_blk rfl 38 (.tmp 9) (.tmp 53) rfl (bx + 1 + 1) 38 msgZ msgZ rfl rfl (hO3.out.blk Z2.out (by omega)) rfl Try.sizeM rfl ?_; intro w4 hB4 hO4))
  have hbF : Below bx w w4 := (by have := HA1.out; rwa [hbx] at this : Below bx w w1).trans ((hO3.out.below (by omega)).trans (hO4.out.below (by omega)))
  refine bodyPost_ret (v := .tuple #[.agg #[.int .u64 c.client, .slice N n nc, .int .i64 c.at_, .int .i64 c.turn, .int .u64 c.seq, .bool false, .int .i64 c.kind, .string c.key, .slice D m dc, .int .i64 c.waited, .int .i64 c.retry, .int .i64 c.limit], .agg msgZ, .int .i64 2]) (res_cct Try.results15 rfl rfl rfl (load_blk (hO4.out.blk hB3.out (by omega)) Try.underlying40 rfl Try.sizeC) (load_blk hB4.out Try.underlying38 rfl Try.sizeM)) rfl ⟨rfl, by rw [hbx]; exact hbF⟩
set_option maxRecDepth 100000 in
set_option maxHeartbeats 1000000 in
theorem rcall_bad5a (c : Cal) (n : Nat) (N : Option Addr) (nc m : Nat) (D : Option Addr) (dc : Nat) (E : Option Addr) (em ec : Nat) (w : World) (h : Hid (CalIn w c n N nc m D dc)) (hm : May c) (ho : c.opn = false) :
    Calls Try.prog 15 #[.agg (c.cs n N nc m D dc), .int .i64 1, .string ⟨#[]⟩, .slice E em ec] w (RetRef (c.cs n N nc m D dc) 2 w) := by
  have HM := Lib.hid (may_opn hm false)
  clear hm
  unfold Cal.cs
  rw [ho]
  have HO := Lib.hid ho
  clear ho
  have hb0 := (((Below.refl w.heap.size w).alloc (Nat.le_refl _) (.cells #[.int .u64 c.client, .slice N n nc, .int .i64 c.at_, .int .i64 c.turn, .int .u64 c.seq, .bool false, .int .i64 c.kind, .string c.key, .slice D m dc, .int .i64 c.waited, .int .i64 c.retry, .int .i64 c.limit] 40)).alloc (by simp) (.cells #[.int .u64 0, .slice none 0 0, .int .i64 0, .int .i64 0, .int .u64 0, .bool false, .int .i64 0, .string ⟨#[]⟩, .slice none 0 0, .int .i64 0, .int .i64 0, .int .i64 0] 40)).alloc (by simp; omega) (.cells msgZ 38)
  have b0 := ((Blk.new w 40 #[.int .u64 c.client, .slice N n nc, .int .i64 c.at_, .int .i64 c.turn, .int .u64 c.seq, .bool false, .int .i64 c.kind, .string c.key, .slice D m dc, .int .i64 c.waited, .int .i64 c.retry, .int .i64 c.limit]).alloc (.cells #[.int .u64 0, .slice none 0 0, .int .i64 0, .int .i64 0, .int .u64 0, .bool false, .int .i64 0, .string ⟨#[]⟩, .slice none 0 0, .int .i64 0, .int .i64 0, .int .i64 0] 40)).alloc (.cells msgZ 38)
  have b1 := (blk_second w (.cells #[.int .u64 c.client, .slice N n nc, .int .i64 c.at_, .int .i64 c.turn, .int .u64 c.seq, .bool false, .int .i64 c.kind, .string c.key, .slice D m dc, .int .i64 c.waited, .int .i64 c.retry, .int .i64 c.limit] 40) 40 #[.int .u64 0, .slice none 0 0, .int .i64 0, .int .i64 0, .int .u64 0, .bool false, .int .i64 0, .string ⟨#[]⟩, .slice none 0 0, .int .i64 0, .int .i64 0, .int .i64 0]).alloc (.cells msgZ 38)
  have b2 := blk_second (w.alloc (.cells #[.int .u64 c.client, .slice N n nc, .int .i64 c.at_, .int .i64 c.turn, .int .u64 c.seq, .bool false, .int .i64 c.kind, .string c.key, .slice D m dc, .int .i64 c.waited, .int .i64 c.retry, .int .i64 c.limit] 40)) (.cells #[.int .u64 0, .slice none 0 0, .int .i64 0, .int .i64 0, .int .u64 0, .bool false, .int .i64 0, .string ⟨#[]⟩, .slice none 0 0, .int .i64 0, .int .i64 0, .int .i64 0] 40) 38 msgZ
  simp only [World.size_alloc] at b2
  obtain ⟨wa, hwa⟩ : ∃ wa, ((w.alloc (.cells #[.int .u64 c.client, .slice N n nc, .int .i64 c.at_, .int .i64 c.turn, .int .u64 c.seq, .bool false, .int .i64 c.kind, .string c.key, .slice D m dc, .int .i64 c.waited, .int .i64 c.retry, .int .i64 c.limit] 40)).alloc (.cells #[.int .u64 0, .slice none 0 0, .int .i64 0, .int .i64 0, .int .u64 0, .bool false, .int .i64 0, .string ⟨#[]⟩, .slice none 0 0, .int .i64 0, .int .i64 0, .int .i64 0] 40)).alloc (.cells msgZ 38) = wa := ⟨_, rfl⟩
  have hsz : wa.heap.size = w.heap.size + 1 + 1 + 1 := by rw [← hwa]; simp
  rw [hwa] at hb0 b0 b1 b2
  obtain ⟨bx, hbx⟩ : ∃ bx, w.heap.size = bx := ⟨_, rfl⟩
  have HBX := Lib.hid hbx
  rw [hbx] at b0 b1 b2 hsz
  have HS := Lib.hid hsz
  have HA := Lib.hid hb0
  have C1 := Lib.hid ((calin_opn h.out false).later hb0)
  have Z1 := Lib.hid b1
  have Z2 := Lib.hid b2
  have X0 := Lib.hid b0
  have x5 : wa.cell? ⟨bx, 5, none⟩ = some (.bool false) := b0.cell 5
  clear hsz hb0 b0 b1 b2
  unfold msgZ at hwa
  go_enter Try.func15, Try.ntmps15
  go_wp2_with (first
    | (refine wpl_load_blk rfl 40 (.tmp 4) rfl bx 40 _ _ rfl X0.out Try.underlying40 rfl Try.sizeC ?_)
    | (go_at_call 32; clear hwa; refine (rmay_yes (c := { c with opn := false }) (n := n) (N := N) (nc := nc) (m := m) (D := D) (dc := dc) C1 HM.out).mono ?_; rintro e w1 ⟨rfl, hb⟩; have HA1 := Lib.hid (HA.out.trans (hb.mono HA.out.size)); have Z1 := Lib.hid (Z1.out.below hb Z1.out.lt); have Z2 := Lib.hid (Z2.out.below hb Z2.out.lt); have X0 := Lib.hid (X0.out.below hb X0.out.lt); have HS1 := Lib.hid (show bx + 1 + 1 + 1 ≤ w1.heap.size from by have := hb.size; have := HS.out; omega); have x5 : w1.cell? ⟨bx, 5, none⟩ = some (.bool false) := X0.out.cell 5; clear hb)
    | (refine wpl_store_blk rfl 40 (.tmp 8) (.tmp 52) rfl (bx + 1) 40 #[.int .u64 0, .slice none 0 0, .int .i64 0, .int .i64 0, .int .u64 0, .bool false, .int .i64 0, .string ⟨#[]⟩, .slice none 0 0, .int .i64 0, .int .i64 0, .int .i64 0] #[.int .u64 c.client, .slice N n nc, .int .i64 c.at_, .int .i64 c.turn, .int .u64 c.seq, .bool false, .int .i64 c.kind, .string c.key, .slice D m dc, .int .i64 c.waited, .int .i64 c.retry, .int .i64 c.limit] rfl rfl Z1.out rfl Try.sizeC rfl ?_; intro w3 hB3 hO3)
    | (refine wpl_store_blk rfl 38 (.tmp 9) (.tmp 53) rfl (bx + 1 + 1) 38 msgZ msgZ rfl rfl (hO3.out.blk Z2.out (by omega)) rfl Try.sizeM rfl ?_; intro w4 hB4 hO4))
  have hbF : Below bx w w4 := (by have := HA1.out; rwa [hbx] at this : Below bx w w1).trans ((hO3.out.below (by omega)).trans (hO4.out.below (by omega)))
  refine bodyPost_ret (v := .tuple #[.agg #[.int .u64 c.client, .slice N n nc, .int .i64 c.at_, .int .i64 c.turn, .int .u64 c.seq, .bool false, .int .i64 c.kind, .string c.key, .slice D m dc, .int .i64 c.waited, .int .i64 c.retry, .int .i64 c.limit], .agg msgZ, .int .i64 2]) (res_cct Try.results15 rfl rfl rfl (load_blk (hO4.out.blk hB3.out (by omega)) Try.underlying40 rfl Try.sizeC) (load_blk hB4.out Try.underlying38 rfl Try.sizeM)) rfl ⟨rfl, by rw [hbx]; exact hbF⟩
set_option maxRecDepth 100000 in
set_option maxHeartbeats 1000000 in
theorem rcall_bad5b (c : Cal) (n : Nat) (N : Option Addr) (nc m : Nat) (D : Option Addr) (dc : Nat) (E : Option Addr) (em ec : Nat) (w : World) (h : Hid (CalIn w c n N nc m D dc)) (hm : May c) (ho : c.opn = false) :
    Calls Try.prog 15 #[.agg (c.cs n N nc m D dc), .int .i64 2, .string ⟨#[]⟩, .slice E em ec] w (RetRef (c.cs n N nc m D dc) 2 w) := by
  have HM := Lib.hid (may_opn hm false)
  clear hm
  unfold Cal.cs
  rw [ho]
  have HO := Lib.hid ho
  clear ho
  have hb0 := (((Below.refl w.heap.size w).alloc (Nat.le_refl _) (.cells #[.int .u64 c.client, .slice N n nc, .int .i64 c.at_, .int .i64 c.turn, .int .u64 c.seq, .bool false, .int .i64 c.kind, .string c.key, .slice D m dc, .int .i64 c.waited, .int .i64 c.retry, .int .i64 c.limit] 40)).alloc (by simp) (.cells #[.int .u64 0, .slice none 0 0, .int .i64 0, .int .i64 0, .int .u64 0, .bool false, .int .i64 0, .string ⟨#[]⟩, .slice none 0 0, .int .i64 0, .int .i64 0, .int .i64 0] 40)).alloc (by simp; omega) (.cells msgZ 38)
  have b0 := ((Blk.new w 40 #[.int .u64 c.client, .slice N n nc, .int .i64 c.at_, .int .i64 c.turn, .int .u64 c.seq, .bool false, .int .i64 c.kind, .string c.key, .slice D m dc, .int .i64 c.waited, .int .i64 c.retry, .int .i64 c.limit]).alloc (.cells #[.int .u64 0, .slice none 0 0, .int .i64 0, .int .i64 0, .int .u64 0, .bool false, .int .i64 0, .string ⟨#[]⟩, .slice none 0 0, .int .i64 0, .int .i64 0, .int .i64 0] 40)).alloc (.cells msgZ 38)
  have b1 := (blk_second w (.cells #[.int .u64 c.client, .slice N n nc, .int .i64 c.at_, .int .i64 c.turn, .int .u64 c.seq, .bool false, .int .i64 c.kind, .string c.key, .slice D m dc, .int .i64 c.waited, .int .i64 c.retry, .int .i64 c.limit] 40) 40 #[.int .u64 0, .slice none 0 0, .int .i64 0, .int .i64 0, .int .u64 0, .bool false, .int .i64 0, .string ⟨#[]⟩, .slice none 0 0, .int .i64 0, .int .i64 0, .int .i64 0]).alloc (.cells msgZ 38)
  have b2 := blk_second (w.alloc (.cells #[.int .u64 c.client, .slice N n nc, .int .i64 c.at_, .int .i64 c.turn, .int .u64 c.seq, .bool false, .int .i64 c.kind, .string c.key, .slice D m dc, .int .i64 c.waited, .int .i64 c.retry, .int .i64 c.limit] 40)) (.cells #[.int .u64 0, .slice none 0 0, .int .i64 0, .int .i64 0, .int .u64 0, .bool false, .int .i64 0, .string ⟨#[]⟩, .slice none 0 0, .int .i64 0, .int .i64 0, .int .i64 0] 40) 38 msgZ
  simp only [World.size_alloc] at b2
  obtain ⟨wa, hwa⟩ : ∃ wa, ((w.alloc (.cells #[.int .u64 c.client, .slice N n nc, .int .i64 c.at_, .int .i64 c.turn, .int .u64 c.seq, .bool false, .int .i64 c.kind, .string c.key, .slice D m dc, .int .i64 c.waited, .int .i64 c.retry, .int .i64 c.limit] 40)).alloc (.cells #[.int .u64 0, .slice none 0 0, .int .i64 0, .int .i64 0, .int .u64 0, .bool false, .int .i64 0, .string ⟨#[]⟩, .slice none 0 0, .int .i64 0, .int .i64 0, .int .i64 0] 40)).alloc (.cells msgZ 38) = wa := ⟨_, rfl⟩
  have hsz : wa.heap.size = w.heap.size + 1 + 1 + 1 := by rw [← hwa]; simp
  rw [hwa] at hb0 b0 b1 b2
  obtain ⟨bx, hbx⟩ : ∃ bx, w.heap.size = bx := ⟨_, rfl⟩
  have HBX := Lib.hid hbx
  rw [hbx] at b0 b1 b2 hsz
  have HS := Lib.hid hsz
  have HA := Lib.hid hb0
  have C1 := Lib.hid ((calin_opn h.out false).later hb0)
  have Z1 := Lib.hid b1
  have Z2 := Lib.hid b2
  have X0 := Lib.hid b0
  have x5 : wa.cell? ⟨bx, 5, none⟩ = some (.bool false) := b0.cell 5
  clear hsz hb0 b0 b1 b2
  unfold msgZ at hwa
  go_enter Try.func15, Try.ntmps15
  go_wp2_with (first
    | (refine wpl_load_blk rfl 40 (.tmp 4) rfl bx 40 _ _ rfl X0.out Try.underlying40 rfl Try.sizeC ?_)
    | (go_at_call 32; clear hwa; refine (rmay_yes (c := { c with opn := false }) (n := n) (N := N) (nc := nc) (m := m) (D := D) (dc := dc) C1 HM.out).mono ?_; rintro e w1 ⟨rfl, hb⟩; have HA1 := Lib.hid (HA.out.trans (hb.mono HA.out.size)); have Z1 := Lib.hid (Z1.out.below hb Z1.out.lt); have Z2 := Lib.hid (Z2.out.below hb Z2.out.lt); have X0 := Lib.hid (X0.out.below hb X0.out.lt); have HS1 := Lib.hid (show bx + 1 + 1 + 1 ≤ w1.heap.size from by have := hb.size; have := HS.out; omega); have x5 : w1.cell? ⟨bx, 5, none⟩ = some (.bool false) := X0.out.cell 5; clear hb)
    | (refine wpl_store_blk rfl 40 (.tmp 8) (.tmp 52) rfl (bx + 1) 40 #[.int .u64 0, .slice none 0 0, .int .i64 0, .int .i64 0, .int .u64 0, .bool false, .int .i64 0, .string ⟨#[]⟩, .slice none 0 0, .int .i64 0, .int .i64 0, .int .i64 0] #[.int .u64 c.client, .slice N n nc, .int .i64 c.at_, .int .i64 c.turn, .int .u64 c.seq, .bool false, .int .i64 c.kind, .string c.key, .slice D m dc, .int .i64 c.waited, .int .i64 c.retry, .int .i64 c.limit] rfl rfl Z1.out rfl Try.sizeC rfl ?_; intro w3 hB3 hO3)
    | (refine wpl_store_blk rfl 38 (.tmp 9) (.tmp 53) rfl (bx + 1 + 1) 38 msgZ msgZ rfl rfl (hO3.out.blk Z2.out (by omega)) rfl Try.sizeM rfl ?_; intro w4 hB4 hO4))
  have hbF : Below bx w w4 := (by have := HA1.out; rwa [hbx] at this : Below bx w w1).trans ((hO3.out.below (by omega)).trans (hO4.out.below (by omega)))
  refine bodyPost_ret (v := .tuple #[.agg #[.int .u64 c.client, .slice N n nc, .int .i64 c.at_, .int .i64 c.turn, .int .u64 c.seq, .bool false, .int .i64 c.kind, .string c.key, .slice D m dc, .int .i64 c.waited, .int .i64 c.retry, .int .i64 c.limit], .agg msgZ, .int .i64 2]) (res_cct Try.results15 rfl rfl rfl (load_blk (hO4.out.blk hB3.out (by omega)) Try.underlying40 rfl Try.sizeC) (load_blk hB4.out Try.underlying38 rfl Try.sizeM)) rfl ⟨rfl, by rw [hbx]; exact hbF⟩
set_option maxRecDepth 100000 in
set_option maxHeartbeats 1000000 in
theorem rcall_bad5c (c : Cal) (n : Nat) (N : Option Addr) (nc m : Nat) (D : Option Addr) (dc : Nat) (E : Option Addr) (em ec : Nat) (w : World) (h : Hid (CalIn w c n N nc m D dc)) (hm : May c) (ho : c.opn = false) :
    Calls Try.prog 15 #[.agg (c.cs n N nc m D dc), .int .i64 3, .string ⟨#[]⟩, .slice E em ec] w (RetRef (c.cs n N nc m D dc) 2 w) := by
  have HM := Lib.hid (may_opn hm false)
  clear hm
  unfold Cal.cs
  rw [ho]
  have HO := Lib.hid ho
  clear ho
  have hb0 := (((Below.refl w.heap.size w).alloc (Nat.le_refl _) (.cells #[.int .u64 c.client, .slice N n nc, .int .i64 c.at_, .int .i64 c.turn, .int .u64 c.seq, .bool false, .int .i64 c.kind, .string c.key, .slice D m dc, .int .i64 c.waited, .int .i64 c.retry, .int .i64 c.limit] 40)).alloc (by simp) (.cells #[.int .u64 0, .slice none 0 0, .int .i64 0, .int .i64 0, .int .u64 0, .bool false, .int .i64 0, .string ⟨#[]⟩, .slice none 0 0, .int .i64 0, .int .i64 0, .int .i64 0] 40)).alloc (by simp; omega) (.cells msgZ 38)
  have b0 := ((Blk.new w 40 #[.int .u64 c.client, .slice N n nc, .int .i64 c.at_, .int .i64 c.turn, .int .u64 c.seq, .bool false, .int .i64 c.kind, .string c.key, .slice D m dc, .int .i64 c.waited, .int .i64 c.retry, .int .i64 c.limit]).alloc (.cells #[.int .u64 0, .slice none 0 0, .int .i64 0, .int .i64 0, .int .u64 0, .bool false, .int .i64 0, .string ⟨#[]⟩, .slice none 0 0, .int .i64 0, .int .i64 0, .int .i64 0] 40)).alloc (.cells msgZ 38)
  have b1 := (blk_second w (.cells #[.int .u64 c.client, .slice N n nc, .int .i64 c.at_, .int .i64 c.turn, .int .u64 c.seq, .bool false, .int .i64 c.kind, .string c.key, .slice D m dc, .int .i64 c.waited, .int .i64 c.retry, .int .i64 c.limit] 40) 40 #[.int .u64 0, .slice none 0 0, .int .i64 0, .int .i64 0, .int .u64 0, .bool false, .int .i64 0, .string ⟨#[]⟩, .slice none 0 0, .int .i64 0, .int .i64 0, .int .i64 0]).alloc (.cells msgZ 38)
  have b2 := blk_second (w.alloc (.cells #[.int .u64 c.client, .slice N n nc, .int .i64 c.at_, .int .i64 c.turn, .int .u64 c.seq, .bool false, .int .i64 c.kind, .string c.key, .slice D m dc, .int .i64 c.waited, .int .i64 c.retry, .int .i64 c.limit] 40)) (.cells #[.int .u64 0, .slice none 0 0, .int .i64 0, .int .i64 0, .int .u64 0, .bool false, .int .i64 0, .string ⟨#[]⟩, .slice none 0 0, .int .i64 0, .int .i64 0, .int .i64 0] 40) 38 msgZ
  simp only [World.size_alloc] at b2
  obtain ⟨wa, hwa⟩ : ∃ wa, ((w.alloc (.cells #[.int .u64 c.client, .slice N n nc, .int .i64 c.at_, .int .i64 c.turn, .int .u64 c.seq, .bool false, .int .i64 c.kind, .string c.key, .slice D m dc, .int .i64 c.waited, .int .i64 c.retry, .int .i64 c.limit] 40)).alloc (.cells #[.int .u64 0, .slice none 0 0, .int .i64 0, .int .i64 0, .int .u64 0, .bool false, .int .i64 0, .string ⟨#[]⟩, .slice none 0 0, .int .i64 0, .int .i64 0, .int .i64 0] 40)).alloc (.cells msgZ 38) = wa := ⟨_, rfl⟩
  have hsz : wa.heap.size = w.heap.size + 1 + 1 + 1 := by rw [← hwa]; simp
  rw [hwa] at hb0 b0 b1 b2
  obtain ⟨bx, hbx⟩ : ∃ bx, w.heap.size = bx := ⟨_, rfl⟩
  have HBX := Lib.hid hbx
  rw [hbx] at b0 b1 b2 hsz
  have HS := Lib.hid hsz
  have HA := Lib.hid hb0
  have C1 := Lib.hid ((calin_opn h.out false).later hb0)
  have Z1 := Lib.hid b1
  have Z2 := Lib.hid b2
  have X0 := Lib.hid b0
  have x5 : wa.cell? ⟨bx, 5, none⟩ = some (.bool false) := b0.cell 5
  clear hsz hb0 b0 b1 b2
  unfold msgZ at hwa
  go_enter Try.func15, Try.ntmps15
  go_wp2_with (first
    | (refine wpl_load_blk rfl 40 (.tmp 4) rfl bx 40 _ _ rfl X0.out Try.underlying40 rfl Try.sizeC ?_)
    | (go_at_call 32; clear hwa; refine (rmay_yes (c := { c with opn := false }) (n := n) (N := N) (nc := nc) (m := m) (D := D) (dc := dc) C1 HM.out).mono ?_; rintro e w1 ⟨rfl, hb⟩; have HA1 := Lib.hid (HA.out.trans (hb.mono HA.out.size)); have Z1 := Lib.hid (Z1.out.below hb Z1.out.lt); have Z2 := Lib.hid (Z2.out.below hb Z2.out.lt); have X0 := Lib.hid (X0.out.below hb X0.out.lt); have HS1 := Lib.hid (show bx + 1 + 1 + 1 ≤ w1.heap.size from by have := hb.size; have := HS.out; omega); have x5 : w1.cell? ⟨bx, 5, none⟩ = some (.bool false) := X0.out.cell 5; clear hb)
    | (refine wpl_store_blk rfl 40 (.tmp 8) (.tmp 52) rfl (bx + 1) 40 #[.int .u64 0, .slice none 0 0, .int .i64 0, .int .i64 0, .int .u64 0, .bool false, .int .i64 0, .string ⟨#[]⟩, .slice none 0 0, .int .i64 0, .int .i64 0, .int .i64 0] #[.int .u64 c.client, .slice N n nc, .int .i64 c.at_, .int .i64 c.turn, .int .u64 c.seq, .bool false, .int .i64 c.kind, .string c.key, .slice D m dc, .int .i64 c.waited, .int .i64 c.retry, .int .i64 c.limit] rfl rfl Z1.out rfl Try.sizeC rfl ?_; intro w3 hB3 hO3)
    | (refine wpl_store_blk rfl 38 (.tmp 9) (.tmp 53) rfl (bx + 1 + 1) 38 msgZ msgZ rfl rfl (hO3.out.blk Z2.out (by omega)) rfl Try.sizeM rfl ?_; intro w4 hB4 hO4))
  have hbF : Below bx w w4 := (by have := HA1.out; rwa [hbx] at this : Below bx w w1).trans ((hO3.out.below (by omega)).trans (hO4.out.below (by omega)))
  refine bodyPost_ret (v := .tuple #[.agg #[.int .u64 c.client, .slice N n nc, .int .i64 c.at_, .int .i64 c.turn, .int .u64 c.seq, .bool false, .int .i64 c.kind, .string c.key, .slice D m dc, .int .i64 c.waited, .int .i64 c.retry, .int .i64 c.limit], .agg msgZ, .int .i64 2]) (res_cct Try.results15 rfl rfl rfl (load_blk (hO4.out.blk hB3.out (by omega)) Try.underlying40 rfl Try.sizeC) (load_blk hB4.out Try.underlying38 rfl Try.sizeM)) rfl ⟨rfl, by rw [hbx]; exact hbF⟩
set_option maxRecDepth 100000 in
set_option maxHeartbeats 1000000 in
theorem rcall_bad6a (c : Cal) (n : Nat) (N : Option Addr) (nc m : Nat) (D : Option Addr) (dc : Nat) (E : Option Addr) (em ec : Nat) (w : World) (h : Hid (CalIn w c n N nc m D dc)) (hm : May c) (ho : c.opn = false) (f5 : 0 < em) (f6 : em ≤ maxLen) :
    Calls Try.prog 15 #[.agg (c.cs n N nc m D dc), .int .i64 4, .string ⟨#[]⟩, .slice E em ec] w (RetRef (c.cs n N nc m D dc) 2 w) := by
  unfold maxLen at f6
  have HM := Lib.hid (may_opn hm false)
  clear hm
  unfold Cal.cs
  rw [ho]
  have HO := Lib.hid ho
  clear ho
  have hb0 := (((Below.refl w.heap.size w).alloc (Nat.le_refl _) (.cells #[.int .u64 c.client, .slice N n nc, .int .i64 c.at_, .int .i64 c.turn, .int .u64 c.seq, .bool false, .int .i64 c.kind, .string c.key, .slice D m dc, .int .i64 c.waited, .int .i64 c.retry, .int .i64 c.limit] 40)).alloc (by simp) (.cells #[.int .u64 0, .slice none 0 0, .int .i64 0, .int .i64 0, .int .u64 0, .bool false, .int .i64 0, .string ⟨#[]⟩, .slice none 0 0, .int .i64 0, .int .i64 0, .int .i64 0] 40)).alloc (by simp; omega) (.cells msgZ 38)
  have b0 := ((Blk.new w 40 #[.int .u64 c.client, .slice N n nc, .int .i64 c.at_, .int .i64 c.turn, .int .u64 c.seq, .bool false, .int .i64 c.kind, .string c.key, .slice D m dc, .int .i64 c.waited, .int .i64 c.retry, .int .i64 c.limit]).alloc (.cells #[.int .u64 0, .slice none 0 0, .int .i64 0, .int .i64 0, .int .u64 0, .bool false, .int .i64 0, .string ⟨#[]⟩, .slice none 0 0, .int .i64 0, .int .i64 0, .int .i64 0] 40)).alloc (.cells msgZ 38)
  have b1 := (blk_second w (.cells #[.int .u64 c.client, .slice N n nc, .int .i64 c.at_, .int .i64 c.turn, .int .u64 c.seq, .bool false, .int .i64 c.kind, .string c.key, .slice D m dc, .int .i64 c.waited, .int .i64 c.retry, .int .i64 c.limit] 40) 40 #[.int .u64 0, .slice none 0 0, .int .i64 0, .int .i64 0, .int .u64 0, .bool false, .int .i64 0, .string ⟨#[]⟩, .slice none 0 0, .int .i64 0, .int .i64 0, .int .i64 0]).alloc (.cells msgZ 38)
  have b2 := blk_second (w.alloc (.cells #[.int .u64 c.client, .slice N n nc, .int .i64 c.at_, .int .i64 c.turn, .int .u64 c.seq, .bool false, .int .i64 c.kind, .string c.key, .slice D m dc, .int .i64 c.waited, .int .i64 c.retry, .int .i64 c.limit] 40)) (.cells #[.int .u64 0, .slice none 0 0, .int .i64 0, .int .i64 0, .int .u64 0, .bool false, .int .i64 0, .string ⟨#[]⟩, .slice none 0 0, .int .i64 0, .int .i64 0, .int .i64 0] 40) 38 msgZ
  simp only [World.size_alloc] at b2
  obtain ⟨wa, hwa⟩ : ∃ wa, ((w.alloc (.cells #[.int .u64 c.client, .slice N n nc, .int .i64 c.at_, .int .i64 c.turn, .int .u64 c.seq, .bool false, .int .i64 c.kind, .string c.key, .slice D m dc, .int .i64 c.waited, .int .i64 c.retry, .int .i64 c.limit] 40)).alloc (.cells #[.int .u64 0, .slice none 0 0, .int .i64 0, .int .i64 0, .int .u64 0, .bool false, .int .i64 0, .string ⟨#[]⟩, .slice none 0 0, .int .i64 0, .int .i64 0, .int .i64 0] 40)).alloc (.cells msgZ 38) = wa := ⟨_, rfl⟩
  have hsz : wa.heap.size = w.heap.size + 1 + 1 + 1 := by rw [← hwa]; simp
  rw [hwa] at hb0 b0 b1 b2
  obtain ⟨bx, hbx⟩ : ∃ bx, w.heap.size = bx := ⟨_, rfl⟩
  have HBX := Lib.hid hbx
  rw [hbx] at b0 b1 b2 hsz
  have HS := Lib.hid hsz
  have HA := Lib.hid hb0
  have C1 := Lib.hid ((calin_opn h.out false).later hb0)
  have Z1 := Lib.hid b1
  have Z2 := Lib.hid b2
  have X0 := Lib.hid b0
  have x5 : wa.cell? ⟨bx, 5, none⟩ = some (.bool false) := b0.cell 5
  clear hsz hb0 b0 b1 b2
  unfold msgZ at hwa
  go_enter Try.func15, Try.ntmps15
  go_wp2_with (first
    | (refine wpl_load_blk rfl 40 (.tmp 4) rfl bx 40 _ _ rfl X0.out Try.underlying40 rfl Try.sizeC ?_)
    | (go_at_call 32; clear hwa; refine (rmay_yes (c := { c with opn := false }) (n := n) (N := N) (nc := nc) (m := m) (D := D) (dc := dc) C1 HM.out).mono ?_; rintro e w1 ⟨rfl, hb⟩; have HA1 := Lib.hid (HA.out.trans (hb.mono HA.out.size)); have Z1 := Lib.hid (Z1.out.below hb Z1.out.lt); have Z2 := Lib.hid (Z2.out.below hb Z2.out.lt); have X0 := Lib.hid (X0.out.below hb X0.out.lt); have HS1 := Lib.hid (show bx + 1 + 1 + 1 ≤ w1.heap.size from by have := hb.size; have := HS.out; omega); have x5 : w1.cell? ⟨bx, 5, none⟩ = some (.bool false) := X0.out.cell 5; clear hb)
    | (refine wpl_store_blk rfl 40 (.tmp 8) (.tmp 52) rfl (bx + 1) 40 #[.int .u64 0, .slice none 0 0, .int .i64 0, .int .i64 0, .int .u64 0, .bool false, .int .i64 0, .string ⟨#[]⟩, .slice none 0 0, .int .i64 0, .int .i64 0, .int .i64 0] #[.int .u64 c.client, .slice N n nc, .int .i64 c.at_, .int .i64 c.turn, .int .u64 c.seq, .bool false, .int .i64 c.kind, .string c.key, .slice D m dc, .int .i64 c.waited, .int .i64 c.retry, .int .i64 c.limit] rfl rfl Z1.out rfl Try.sizeC rfl ?_; intro w3 hB3 hO3)
    | (refine wpl_store_blk rfl 38 (.tmp 9) (.tmp 53) rfl (bx + 1 + 1) 38 msgZ msgZ rfl rfl (hO3.out.blk Z2.out (by omega)) rfl Try.sizeM rfl ?_; intro w4 hB4 hO4))
  have hbF : Below bx w w4 := (by have := HA1.out; rwa [hbx] at this : Below bx w w1).trans ((hO3.out.below (by omega)).trans (hO4.out.below (by omega)))
  refine bodyPost_ret (v := .tuple #[.agg #[.int .u64 c.client, .slice N n nc, .int .i64 c.at_, .int .i64 c.turn, .int .u64 c.seq, .bool false, .int .i64 c.kind, .string c.key, .slice D m dc, .int .i64 c.waited, .int .i64 c.retry, .int .i64 c.limit], .agg msgZ, .int .i64 2]) (res_cct Try.results15 rfl rfl rfl (load_blk (hO4.out.blk hB3.out (by omega)) Try.underlying40 rfl Try.sizeC) (load_blk hB4.out Try.underlying38 rfl Try.sizeM)) rfl ⟨rfl, by rw [hbx]; exact hbF⟩
set_option maxRecDepth 100000 in
set_option maxHeartbeats 1000000 in
theorem rcall_bad6b (c : Cal) (n : Nat) (N : Option Addr) (nc m : Nat) (D : Option Addr) (dc : Nat) (key : ByteArray) (E : Option Addr) (em ec : Nat) (w : World) (h : Hid (CalIn w c n N nc m D dc)) (hm : May c) (ho : c.opn = false) (f3 : key.size ≤ 64) (hp : 0 < key.size) (f5 : 0 < em) (f6 : em ≤ maxLen) :
    Calls Try.prog 15 #[.agg (c.cs n N nc m D dc), .int .i64 2, .string key, .slice E em ec] w (RetRef (c.cs n N nc m D dc) 2 w) := by
  have n1 := key_some hp
  have n2 := key_full hp
  unfold maxLen at f6
  have HM := Lib.hid (may_opn hm false)
  clear hm
  unfold Cal.cs
  rw [ho]
  have HO := Lib.hid ho
  clear ho
  have hb0 := (((Below.refl w.heap.size w).alloc (Nat.le_refl _) (.cells #[.int .u64 c.client, .slice N n nc, .int .i64 c.at_, .int .i64 c.turn, .int .u64 c.seq, .bool false, .int .i64 c.kind, .string c.key, .slice D m dc, .int .i64 c.waited, .int .i64 c.retry, .int .i64 c.limit] 40)).alloc (by simp) (.cells #[.int .u64 0, .slice none 0 0, .int .i64 0, .int .i64 0, .int .u64 0, .bool false, .int .i64 0, .string ⟨#[]⟩, .slice none 0 0, .int .i64 0, .int .i64 0, .int .i64 0] 40)).alloc (by simp; omega) (.cells msgZ 38)
  have b0 := ((Blk.new w 40 #[.int .u64 c.client, .slice N n nc, .int .i64 c.at_, .int .i64 c.turn, .int .u64 c.seq, .bool false, .int .i64 c.kind, .string c.key, .slice D m dc, .int .i64 c.waited, .int .i64 c.retry, .int .i64 c.limit]).alloc (.cells #[.int .u64 0, .slice none 0 0, .int .i64 0, .int .i64 0, .int .u64 0, .bool false, .int .i64 0, .string ⟨#[]⟩, .slice none 0 0, .int .i64 0, .int .i64 0, .int .i64 0] 40)).alloc (.cells msgZ 38)
  have b1 := (blk_second w (.cells #[.int .u64 c.client, .slice N n nc, .int .i64 c.at_, .int .i64 c.turn, .int .u64 c.seq, .bool false, .int .i64 c.kind, .string c.key, .slice D m dc, .int .i64 c.waited, .int .i64 c.retry, .int .i64 c.limit] 40) 40 #[.int .u64 0, .slice none 0 0, .int .i64 0, .int .i64 0, .int .u64 0, .bool false, .int .i64 0, .string ⟨#[]⟩, .slice none 0 0, .int .i64 0, .int .i64 0, .int .i64 0]).alloc (.cells msgZ 38)
  have b2 := blk_second (w.alloc (.cells #[.int .u64 c.client, .slice N n nc, .int .i64 c.at_, .int .i64 c.turn, .int .u64 c.seq, .bool false, .int .i64 c.kind, .string c.key, .slice D m dc, .int .i64 c.waited, .int .i64 c.retry, .int .i64 c.limit] 40)) (.cells #[.int .u64 0, .slice none 0 0, .int .i64 0, .int .i64 0, .int .u64 0, .bool false, .int .i64 0, .string ⟨#[]⟩, .slice none 0 0, .int .i64 0, .int .i64 0, .int .i64 0] 40) 38 msgZ
  simp only [World.size_alloc] at b2
  obtain ⟨wa, hwa⟩ : ∃ wa, ((w.alloc (.cells #[.int .u64 c.client, .slice N n nc, .int .i64 c.at_, .int .i64 c.turn, .int .u64 c.seq, .bool false, .int .i64 c.kind, .string c.key, .slice D m dc, .int .i64 c.waited, .int .i64 c.retry, .int .i64 c.limit] 40)).alloc (.cells #[.int .u64 0, .slice none 0 0, .int .i64 0, .int .i64 0, .int .u64 0, .bool false, .int .i64 0, .string ⟨#[]⟩, .slice none 0 0, .int .i64 0, .int .i64 0, .int .i64 0] 40)).alloc (.cells msgZ 38) = wa := ⟨_, rfl⟩
  have hsz : wa.heap.size = w.heap.size + 1 + 1 + 1 := by rw [← hwa]; simp
  rw [hwa] at hb0 b0 b1 b2
  obtain ⟨bx, hbx⟩ : ∃ bx, w.heap.size = bx := ⟨_, rfl⟩
  have HBX := Lib.hid hbx
  rw [hbx] at b0 b1 b2 hsz
  have HS := Lib.hid hsz
  have HA := Lib.hid hb0
  have C1 := Lib.hid ((calin_opn h.out false).later hb0)
  have Z1 := Lib.hid b1
  have Z2 := Lib.hid b2
  have X0 := Lib.hid b0
  have x5 : wa.cell? ⟨bx, 5, none⟩ = some (.bool false) := b0.cell 5
  clear hsz hb0 b0 b1 b2
  unfold msgZ at hwa
  go_enter Try.func15, Try.ntmps15
  go_wp2_with (first
    | (refine wpl_load_blk rfl 40 (.tmp 4) rfl bx 40 _ _ rfl X0.out Try.underlying40 rfl Try.sizeC ?_)
    | (go_at_call 32; clear hwa; refine (rmay_yes (c := { c with opn := false }) (n := n) (N := N) (nc := nc) (m := m) (D := D) (dc := dc) C1 HM.out).mono ?_; rintro e w1 ⟨rfl, hb⟩; have HA1 := Lib.hid (HA.out.trans (hb.mono HA.out.size)); have Z1 := Lib.hid (Z1.out.below hb Z1.out.lt); have Z2 := Lib.hid (Z2.out.below hb Z2.out.lt); have X0 := Lib.hid (X0.out.below hb X0.out.lt); have HS1 := Lib.hid (show bx + 1 + 1 + 1 ≤ w1.heap.size from by have := hb.size; have := HS.out; omega); have x5 : w1.cell? ⟨bx, 5, none⟩ = some (.bool false) := X0.out.cell 5; clear hb)
    | (refine wpl_store_blk rfl 40 (.tmp 8) (.tmp 52) rfl (bx + 1) 40 #[.int .u64 0, .slice none 0 0, .int .i64 0, .int .i64 0, .int .u64 0, .bool false, .int .i64 0, .string ⟨#[]⟩, .slice none 0 0, .int .i64 0, .int .i64 0, .int .i64 0] #[.int .u64 c.client, .slice N n nc, .int .i64 c.at_, .int .i64 c.turn, .int .u64 c.seq, .bool false, .int .i64 c.kind, .string c.key, .slice D m dc, .int .i64 c.waited, .int .i64 c.retry, .int .i64 c.limit] rfl rfl Z1.out rfl Try.sizeC rfl ?_; intro w3 hB3 hO3)
    | (refine wpl_store_blk rfl 38 (.tmp 9) (.tmp 53) rfl (bx + 1 + 1) 38 msgZ msgZ rfl rfl (hO3.out.blk Z2.out (by omega)) rfl Try.sizeM rfl ?_; intro w4 hB4 hO4))
  have hbF : Below bx w w4 := (by have := HA1.out; rwa [hbx] at this : Below bx w w1).trans ((hO3.out.below (by omega)).trans (hO4.out.below (by omega)))
  refine bodyPost_ret (v := .tuple #[.agg #[.int .u64 c.client, .slice N n nc, .int .i64 c.at_, .int .i64 c.turn, .int .u64 c.seq, .bool false, .int .i64 c.kind, .string c.key, .slice D m dc, .int .i64 c.waited, .int .i64 c.retry, .int .i64 c.limit], .agg msgZ, .int .i64 2]) (res_cct Try.results15 rfl rfl rfl (load_blk (hO4.out.blk hB3.out (by omega)) Try.underlying40 rfl Try.sizeC) (load_blk hB4.out Try.underlying38 rfl Try.sizeM)) rfl ⟨rfl, by rw [hbx]; exact hbF⟩
set_option maxRecDepth 100000 in
set_option maxHeartbeats 1000000 in
theorem rcall_bad6c (c : Cal) (n : Nat) (N : Option Addr) (nc m : Nat) (D : Option Addr) (dc : Nat) (key : ByteArray) (E : Option Addr) (em ec : Nat) (w : World) (h : Hid (CalIn w c n N nc m D dc)) (hm : May c) (ho : c.opn = false) (f3 : key.size ≤ 64) (hp : 0 < key.size) (f5 : 0 < em) (f6 : em ≤ maxLen) :
    Calls Try.prog 15 #[.agg (c.cs n N nc m D dc), .int .i64 3, .string key, .slice E em ec] w (RetRef (c.cs n N nc m D dc) 2 w) := by
  have n1 := key_some hp
  have n2 := key_full hp
  unfold maxLen at f6
  have HM := Lib.hid (may_opn hm false)
  clear hm
  unfold Cal.cs
  rw [ho]
  have HO := Lib.hid ho
  clear ho
  have hb0 := (((Below.refl w.heap.size w).alloc (Nat.le_refl _) (.cells #[.int .u64 c.client, .slice N n nc, .int .i64 c.at_, .int .i64 c.turn, .int .u64 c.seq, .bool false, .int .i64 c.kind, .string c.key, .slice D m dc, .int .i64 c.waited, .int .i64 c.retry, .int .i64 c.limit] 40)).alloc (by simp) (.cells #[.int .u64 0, .slice none 0 0, .int .i64 0, .int .i64 0, .int .u64 0, .bool false, .int .i64 0, .string ⟨#[]⟩, .slice none 0 0, .int .i64 0, .int .i64 0, .int .i64 0] 40)).alloc (by simp; omega) (.cells msgZ 38)
  have b0 := ((Blk.new w 40 #[.int .u64 c.client, .slice N n nc, .int .i64 c.at_, .int .i64 c.turn, .int .u64 c.seq, .bool false, .int .i64 c.kind, .string c.key, .slice D m dc, .int .i64 c.waited, .int .i64 c.retry, .int .i64 c.limit]).alloc (.cells #[.int .u64 0, .slice none 0 0, .int .i64 0, .int .i64 0, .int .u64 0, .bool false, .int .i64 0, .string ⟨#[]⟩, .slice none 0 0, .int .i64 0, .int .i64 0, .int .i64 0] 40)).alloc (.cells msgZ 38)
  have b1 := (blk_second w (.cells #[.int .u64 c.client, .slice N n nc, .int .i64 c.at_, .int .i64 c.turn, .int .u64 c.seq, .bool false, .int .i64 c.kind, .string c.key, .slice D m dc, .int .i64 c.waited, .int .i64 c.retry, .int .i64 c.limit] 40) 40 #[.int .u64 0, .slice none 0 0, .int .i64 0, .int .i64 0, .int .u64 0, .bool false, .int .i64 0, .string ⟨#[]⟩, .slice none 0 0, .int .i64 0, .int .i64 0, .int .i64 0]).alloc (.cells msgZ 38)
  have b2 := blk_second (w.alloc (.cells #[.int .u64 c.client, .slice N n nc, .int .i64 c.at_, .int .i64 c.turn, .int .u64 c.seq, .bool false, .int .i64 c.kind, .string c.key, .slice D m dc, .int .i64 c.waited, .int .i64 c.retry, .int .i64 c.limit] 40)) (.cells #[.int .u64 0, .slice none 0 0, .int .i64 0, .int .i64 0, .int .u64 0, .bool false, .int .i64 0, .string ⟨#[]⟩, .slice none 0 0, .int .i64 0, .int .i64 0, .int .i64 0] 40) 38 msgZ
  simp only [World.size_alloc] at b2
  obtain ⟨wa, hwa⟩ : ∃ wa, ((w.alloc (.cells #[.int .u64 c.client, .slice N n nc, .int .i64 c.at_, .int .i64 c.turn, .int .u64 c.seq, .bool false, .int .i64 c.kind, .string c.key, .slice D m dc, .int .i64 c.waited, .int .i64 c.retry, .int .i64 c.limit] 40)).alloc (.cells #[.int .u64 0, .slice none 0 0, .int .i64 0, .int .i64 0, .int .u64 0, .bool false, .int .i64 0, .string ⟨#[]⟩, .slice none 0 0, .int .i64 0, .int .i64 0, .int .i64 0] 40)).alloc (.cells msgZ 38) = wa := ⟨_, rfl⟩
  have hsz : wa.heap.size = w.heap.size + 1 + 1 + 1 := by rw [← hwa]; simp
  rw [hwa] at hb0 b0 b1 b2
  obtain ⟨bx, hbx⟩ : ∃ bx, w.heap.size = bx := ⟨_, rfl⟩
  have HBX := Lib.hid hbx
  rw [hbx] at b0 b1 b2 hsz
  have HS := Lib.hid hsz
  have HA := Lib.hid hb0
  have C1 := Lib.hid ((calin_opn h.out false).later hb0)
  have Z1 := Lib.hid b1
  have Z2 := Lib.hid b2
  have X0 := Lib.hid b0
  have x5 : wa.cell? ⟨bx, 5, none⟩ = some (.bool false) := b0.cell 5
  clear hsz hb0 b0 b1 b2
  unfold msgZ at hwa
  go_enter Try.func15, Try.ntmps15
  go_wp2_with (first
    | (refine wpl_load_blk rfl 40 (.tmp 4) rfl bx 40 _ _ rfl X0.out Try.underlying40 rfl Try.sizeC ?_)
    | (go_at_call 32; clear hwa; refine (rmay_yes (c := { c with opn := false }) (n := n) (N := N) (nc := nc) (m := m) (D := D) (dc := dc) C1 HM.out).mono ?_; rintro e w1 ⟨rfl, hb⟩; have HA1 := Lib.hid (HA.out.trans (hb.mono HA.out.size)); have Z1 := Lib.hid (Z1.out.below hb Z1.out.lt); have Z2 := Lib.hid (Z2.out.below hb Z2.out.lt); have X0 := Lib.hid (X0.out.below hb X0.out.lt); have HS1 := Lib.hid (show bx + 1 + 1 + 1 ≤ w1.heap.size from by have := hb.size; have := HS.out; omega); have x5 : w1.cell? ⟨bx, 5, none⟩ = some (.bool false) := X0.out.cell 5; clear hb)
    | (refine wpl_store_blk rfl 40 (.tmp 8) (.tmp 52) rfl (bx + 1) 40 #[.int .u64 0, .slice none 0 0, .int .i64 0, .int .i64 0, .int .u64 0, .bool false, .int .i64 0, .string ⟨#[]⟩, .slice none 0 0, .int .i64 0, .int .i64 0, .int .i64 0] #[.int .u64 c.client, .slice N n nc, .int .i64 c.at_, .int .i64 c.turn, .int .u64 c.seq, .bool false, .int .i64 c.kind, .string c.key, .slice D m dc, .int .i64 c.waited, .int .i64 c.retry, .int .i64 c.limit] rfl rfl Z1.out rfl Try.sizeC rfl ?_; intro w3 hB3 hO3)
    | (refine wpl_store_blk rfl 38 (.tmp 9) (.tmp 53) rfl (bx + 1 + 1) 38 msgZ msgZ rfl rfl (hO3.out.blk Z2.out (by omega)) rfl Try.sizeM rfl ?_; intro w4 hB4 hO4))
  have hbF : Below bx w w4 := (by have := HA1.out; rwa [hbx] at this : Below bx w w1).trans ((hO3.out.below (by omega)).trans (hO4.out.below (by omega)))
  refine bodyPost_ret (v := .tuple #[.agg #[.int .u64 c.client, .slice N n nc, .int .i64 c.at_, .int .i64 c.turn, .int .u64 c.seq, .bool false, .int .i64 c.kind, .string c.key, .slice D m dc, .int .i64 c.waited, .int .i64 c.retry, .int .i64 c.limit], .agg msgZ, .int .i64 2]) (res_cct Try.results15 rfl rfl rfl (load_blk (hO4.out.blk hB3.out (by omega)) Try.underlying40 rfl Try.sizeC) (load_blk hB4.out Try.underlying38 rfl Try.sizeM)) rfl ⟨rfl, by rw [hbx]; exact hbF⟩
set_option maxRecDepth 100000 in
set_option maxHeartbeats 1000000 in
theorem rcall_bad7 (c : Cal) (n : Nat) (N : Option Addr) (nc m : Nat) (D : Option Addr) (dc : Nat) (key : ByteArray) (E : Option Addr) (em ec : Nat) (w : World) (h : Hid (CalIn w c n N nc m D dc)) (hm : May c) (ho : c.opn = false) (f3 : key.size ≤ 64) (hp : 0 < key.size) (f5 : 65536 < em) (f6 : em ≤ maxLen) :
    Calls Try.prog 15 #[.agg (c.cs n N nc m D dc), .int .i64 1, .string key, .slice E em ec] w (RetRef (c.cs n N nc m D dc) 2 w) := by
  have n1 := key_some hp
  have n2 := key_full hp
  unfold maxLen at f6
  have HM := Lib.hid (may_opn hm false)
  clear hm
  unfold Cal.cs
  rw [ho]
  have HO := Lib.hid ho
  clear ho
  have hb0 := (((Below.refl w.heap.size w).alloc (Nat.le_refl _) (.cells #[.int .u64 c.client, .slice N n nc, .int .i64 c.at_, .int .i64 c.turn, .int .u64 c.seq, .bool false, .int .i64 c.kind, .string c.key, .slice D m dc, .int .i64 c.waited, .int .i64 c.retry, .int .i64 c.limit] 40)).alloc (by simp) (.cells #[.int .u64 0, .slice none 0 0, .int .i64 0, .int .i64 0, .int .u64 0, .bool false, .int .i64 0, .string ⟨#[]⟩, .slice none 0 0, .int .i64 0, .int .i64 0, .int .i64 0] 40)).alloc (by simp; omega) (.cells msgZ 38)
  have b0 := ((Blk.new w 40 #[.int .u64 c.client, .slice N n nc, .int .i64 c.at_, .int .i64 c.turn, .int .u64 c.seq, .bool false, .int .i64 c.kind, .string c.key, .slice D m dc, .int .i64 c.waited, .int .i64 c.retry, .int .i64 c.limit]).alloc (.cells #[.int .u64 0, .slice none 0 0, .int .i64 0, .int .i64 0, .int .u64 0, .bool false, .int .i64 0, .string ⟨#[]⟩, .slice none 0 0, .int .i64 0, .int .i64 0, .int .i64 0] 40)).alloc (.cells msgZ 38)
  have b1 := (blk_second w (.cells #[.int .u64 c.client, .slice N n nc, .int .i64 c.at_, .int .i64 c.turn, .int .u64 c.seq, .bool false, .int .i64 c.kind, .string c.key, .slice D m dc, .int .i64 c.waited, .int .i64 c.retry, .int .i64 c.limit] 40) 40 #[.int .u64 0, .slice none 0 0, .int .i64 0, .int .i64 0, .int .u64 0, .bool false, .int .i64 0, .string ⟨#[]⟩, .slice none 0 0, .int .i64 0, .int .i64 0, .int .i64 0]).alloc (.cells msgZ 38)
  have b2 := blk_second (w.alloc (.cells #[.int .u64 c.client, .slice N n nc, .int .i64 c.at_, .int .i64 c.turn, .int .u64 c.seq, .bool false, .int .i64 c.kind, .string c.key, .slice D m dc, .int .i64 c.waited, .int .i64 c.retry, .int .i64 c.limit] 40)) (.cells #[.int .u64 0, .slice none 0 0, .int .i64 0, .int .i64 0, .int .u64 0, .bool false, .int .i64 0, .string ⟨#[]⟩, .slice none 0 0, .int .i64 0, .int .i64 0, .int .i64 0] 40) 38 msgZ
  simp only [World.size_alloc] at b2
  obtain ⟨wa, hwa⟩ : ∃ wa, ((w.alloc (.cells #[.int .u64 c.client, .slice N n nc, .int .i64 c.at_, .int .i64 c.turn, .int .u64 c.seq, .bool false, .int .i64 c.kind, .string c.key, .slice D m dc, .int .i64 c.waited, .int .i64 c.retry, .int .i64 c.limit] 40)).alloc (.cells #[.int .u64 0, .slice none 0 0, .int .i64 0, .int .i64 0, .int .u64 0, .bool false, .int .i64 0, .string ⟨#[]⟩, .slice none 0 0, .int .i64 0, .int .i64 0, .int .i64 0] 40)).alloc (.cells msgZ 38) = wa := ⟨_, rfl⟩
  have hsz : wa.heap.size = w.heap.size + 1 + 1 + 1 := by rw [← hwa]; simp
  rw [hwa] at hb0 b0 b1 b2
  obtain ⟨bx, hbx⟩ : ∃ bx, w.heap.size = bx := ⟨_, rfl⟩
  have HBX := Lib.hid hbx
  rw [hbx] at b0 b1 b2 hsz
  have HS := Lib.hid hsz
  have HA := Lib.hid hb0
  have C1 := Lib.hid ((calin_opn h.out false).later hb0)
  have Z1 := Lib.hid b1
  have Z2 := Lib.hid b2
  have X0 := Lib.hid b0
  have x5 : wa.cell? ⟨bx, 5, none⟩ = some (.bool false) := b0.cell 5
  clear hsz hb0 b0 b1 b2
  unfold msgZ at hwa
  go_enter Try.func15, Try.ntmps15
  go_wp2_with (first
    | (refine wpl_load_blk rfl 40 (.tmp 4) rfl bx 40 _ _ rfl X0.out Try.underlying40 rfl Try.sizeC ?_)
    | (go_at_call 32; clear hwa; refine (rmay_yes (c := { c with opn := false }) (n := n) (N := N) (nc := nc) (m := m) (D := D) (dc := dc) C1 HM.out).mono ?_; rintro e w1 ⟨rfl, hb⟩; have HA1 := Lib.hid (HA.out.trans (hb.mono HA.out.size)); have Z1 := Lib.hid (Z1.out.below hb Z1.out.lt); have Z2 := Lib.hid (Z2.out.below hb Z2.out.lt); have X0 := Lib.hid (X0.out.below hb X0.out.lt); have HS1 := Lib.hid (show bx + 1 + 1 + 1 ≤ w1.heap.size from by have := hb.size; have := HS.out; omega); have x5 : w1.cell? ⟨bx, 5, none⟩ = some (.bool false) := X0.out.cell 5; clear hb)
    | (refine wpl_store_blk rfl 40 (.tmp 8) (.tmp 52) rfl (bx + 1) 40 #[.int .u64 0, .slice none 0 0, .int .i64 0, .int .i64 0, .int .u64 0, .bool false, .int .i64 0, .string ⟨#[]⟩, .slice none 0 0, .int .i64 0, .int .i64 0, .int .i64 0] #[.int .u64 c.client, .slice N n nc, .int .i64 c.at_, .int .i64 c.turn, .int .u64 c.seq, .bool false, .int .i64 c.kind, .string c.key, .slice D m dc, .int .i64 c.waited, .int .i64 c.retry, .int .i64 c.limit] rfl rfl Z1.out rfl Try.sizeC rfl ?_; intro w3 hB3 hO3)
    | (refine wpl_store_blk rfl 38 (.tmp 9) (.tmp 53) rfl (bx + 1 + 1) 38 msgZ msgZ rfl rfl (hO3.out.blk Z2.out (by omega)) rfl Try.sizeM rfl ?_; intro w4 hB4 hO4))
  have hbF : Below bx w w4 := (by have := HA1.out; rwa [hbx] at this : Below bx w w1).trans ((hO3.out.below (by omega)).trans (hO4.out.below (by omega)))
  refine bodyPost_ret (v := .tuple #[.agg #[.int .u64 c.client, .slice N n nc, .int .i64 c.at_, .int .i64 c.turn, .int .u64 c.seq, .bool false, .int .i64 c.kind, .string c.key, .slice D m dc, .int .i64 c.waited, .int .i64 c.retry, .int .i64 c.limit], .agg msgZ, .int .i64 2]) (res_cct Try.results15 rfl rfl rfl (load_blk (hO4.out.blk hB3.out (by omega)) Try.underlying40 rfl Try.sizeC) (load_blk hB4.out Try.underlying38 rfl Try.sizeM)) rfl ⟨rfl, by rw [hbx]; exact hbF⟩
theorem rcall_bad (c : Cal) (n : Nat) (N : Option Addr) (nc m : Nat) (D : Option Addr) (dc : Nat) (kind : Int) (key : ByteArray) (E : Option Addr) (em ec : Nat) (w : World) (h : Hid (CalIn w c n N nc m D dc)) (hm : May c) (ho : c.opn = false) (hcall : callB kind key.size em = false) (hk : key.size ≤ maxLen) (he : em ≤ maxLen) :
    Calls Try.prog 15 #[.agg (c.cs n N nc m D dc), .int .i64 kind, .string key, .slice E em ec] w (RetRef (c.cs n N nc m D dc) 2 w) := by
  have hc := of_decide_eq_false hcall
  rcases Int.lt_or_le kind 1 with f1 | f1
  · exact rcall_bad1 c n N nc m D dc kind key E em ec w h hm ho f1
  rcases Int.lt_or_le 4 kind with f2 | f2
  · exact rcall_bad2 c n N nc m D dc kind key E em ec w h hm ho f1 f2
  rcases Nat.lt_or_ge 64 key.size with f3 | f3
  · exact rcall_bad3 c n N nc m D dc kind key E em ec w h hm ho f1 f2 f3 hk
  rcases Nat.eq_zero_or_pos key.size with hp | hp
  · obtain rfl := key_none hp
    have z0 : (⟨#[]⟩ : ByteArray).size = 0 := rfl
    rw [z0] at hc
    obtain rfl | rfl | rfl | rfl : kind = 1 ∨ kind = 2 ∨ kind = 3 ∨ kind = 4 := by omega
    · exact rcall_bad5a c n N nc m D dc E em ec w h hm ho
    · exact rcall_bad5b c n N nc m D dc E em ec w h hm ho
    · exact rcall_bad5c c n N nc m D dc E em ec w h hm ho
    · exact rcall_bad6a c n N nc m D dc E em ec w h hm ho (by omega) he
  · obtain rfl | rfl | rfl | rfl : kind = 1 ∨ kind = 2 ∨ kind = 3 ∨ kind = 4 := by omega
    · exact rcall_bad7 c n N nc m D dc key E em ec w h hm ho f3 hp (by omega) he
    · exact rcall_bad6b c n N nc m D dc key E em ec w h hm ho f3 hp (by omega) he
    · exact rcall_bad6c c n N nc m D dc key E em ec w h hm ho f3 hp (by omega) he
    · exact rcall_bad4 c n N nc m D dc key E em ec w h hm ho f3 hp
set_option maxRecDepth 100000 in
set_option maxHeartbeats 1000000 in
theorem rcall_yes4 (c : Cal) (n : Nat) (N : Option Addr) (nc m : Nat) (D : Option Addr) (dc : Nat) (E : Option Addr) (ec : Nat) (w : World) (h : Hid (CalIn w c n N nc m D dc)) (hm : May c) (ho : c.opn = false)
     :
    Calls Try.prog 15 #[.agg (c.cs n N nc m D dc), .int .i64 4, .string ⟨#[]⟩, .slice E 0 ec] w (RetCall (Cal.calls c 4 ⟨#[]⟩ []) n N nc w) := by
  have hcl := hm.c2
  have ha0 := hm.a0
  have ha1 : c.at_ < n := by have := hm.a1; rwa [h.out.nl] at this
  have hs1 := hm.s1
  have HM := Lib.hid (may_opn hm false)
  have HEL : Hid (([] : List Nat).length = 0) := Lib.hid rfl
  have HEB : Hid (Byt []) := Lib.hid (fun x hx => by cases hx)
  have HE : Hid (Reads w w.heap.size 1 E 0 (([] : List Nat).map bv)) := Lib.hid ⟨rfl, fun h => absurd h (by omega)⟩
  have hem : 0 ≤ 140737488351232 := by omega
  clear hm
  have hseq : (c.seq : Int) ≤ 4611686018427387903 := by omega
  clear hs1
  have one := Lib.hid (bv_one ([] : List Nat))
  unfold Cal.cs
  rw [ho]
  have HO := Lib.hid ho
  clear ho
  have hb0 := (((Below.refl w.heap.size w).alloc (Nat.le_refl _) (.cells #[.int .u64 c.client, .slice N n nc, .int .i64 c.at_, .int .i64 c.turn, .int .u64 c.seq, .bool false, .int .i64 c.kind, .string c.key, .slice D m dc, .int .i64 c.waited, .int .i64 c.retry, .int .i64 c.limit] 40)).alloc (by simp) (.cells #[.int .u64 0, .slice none 0 0, .int .i64 0, .int .i64 0, .int .u64 0, .bool false, .int .i64 0, .string ⟨#[]⟩, .slice none 0 0, .int .i64 0, .int .i64 0, .int .i64 0] 40)).alloc (by simp; omega) (.cells msgZ 38)
  have b0 := ((Blk.new w 40 #[.int .u64 c.client, .slice N n nc, .int .i64 c.at_, .int .i64 c.turn, .int .u64 c.seq, .bool false, .int .i64 c.kind, .string c.key, .slice D m dc, .int .i64 c.waited, .int .i64 c.retry, .int .i64 c.limit]).alloc (.cells #[.int .u64 0, .slice none 0 0, .int .i64 0, .int .i64 0, .int .u64 0, .bool false, .int .i64 0, .string ⟨#[]⟩, .slice none 0 0, .int .i64 0, .int .i64 0, .int .i64 0] 40)).alloc (.cells msgZ 38)
  have b1 := (blk_second w (.cells #[.int .u64 c.client, .slice N n nc, .int .i64 c.at_, .int .i64 c.turn, .int .u64 c.seq, .bool false, .int .i64 c.kind, .string c.key, .slice D m dc, .int .i64 c.waited, .int .i64 c.retry, .int .i64 c.limit] 40) 40 #[.int .u64 0, .slice none 0 0, .int .i64 0, .int .i64 0, .int .u64 0, .bool false, .int .i64 0, .string ⟨#[]⟩, .slice none 0 0, .int .i64 0, .int .i64 0, .int .i64 0]).alloc (.cells msgZ 38)
  have b2 := blk_second (w.alloc (.cells #[.int .u64 c.client, .slice N n nc, .int .i64 c.at_, .int .i64 c.turn, .int .u64 c.seq, .bool false, .int .i64 c.kind, .string c.key, .slice D m dc, .int .i64 c.waited, .int .i64 c.retry, .int .i64 c.limit] 40)) (.cells #[.int .u64 0, .slice none 0 0, .int .i64 0, .int .i64 0, .int .u64 0, .bool false, .int .i64 0, .string ⟨#[]⟩, .slice none 0 0, .int .i64 0, .int .i64 0, .int .i64 0] 40) 38 msgZ
  simp only [World.size_alloc] at b2
  obtain ⟨wa, hwa⟩ : ∃ wa, ((w.alloc (.cells #[.int .u64 c.client, .slice N n nc, .int .i64 c.at_, .int .i64 c.turn, .int .u64 c.seq, .bool false, .int .i64 c.kind, .string c.key, .slice D m dc, .int .i64 c.waited, .int .i64 c.retry, .int .i64 c.limit] 40)).alloc (.cells #[.int .u64 0, .slice none 0 0, .int .i64 0, .int .i64 0, .int .u64 0, .bool false, .int .i64 0, .string ⟨#[]⟩, .slice none 0 0, .int .i64 0, .int .i64 0, .int .i64 0] 40)).alloc (.cells msgZ 38) = wa := ⟨_, rfl⟩
  have hsz : wa.heap.size = w.heap.size + 1 + 1 + 1 := by rw [← hwa]; simp
  rw [hwa] at hb0 b0 b1 b2
  obtain ⟨bx, hbx⟩ : ∃ bx, w.heap.size = bx := ⟨_, rfl⟩
  have HBX := Lib.hid hbx
  rw [hbx] at b0 b1 b2 hsz
  have HS := Lib.hid hsz
  have HA := Lib.hid hb0
  have C1 := Lib.hid ((calin_opn h.out false).later hb0)
  have E1 := Lib.hid (HE.out.later hb0)
  have Z1 := Lib.hid b1
  have Z2 := Lib.hid b2
  have X0 := Lib.hid b0
  have x0 := b0.cell 0
  have x1 := b0.cell 1
  have x2 := b0.cell 2
  have x3 := b0.cell 3
  have x4 := b0.cell 4
  have x5 := b0.cell 5
  have x6 := b0.cell 6
  have x7 := b0.cell 7
  have x8 := b0.cell 8
  have x9 := b0.cell 9
  have x10 := b0.cell 10
  have x11 := b0.cell 11
  simp only [List.getElem?_toArray, List.getElem?_cons_zero, List.getElem?_cons_succ] at x0 x1 x2 x3 x4 x5 x6 x7 x8 x9 x10 x11
  clear hsz hb0 b0 b1 b2
  unfold msgZ at hwa
  go_enter Try.func15, Try.ntmps15
  go_wp2_with (first
    | (go_at_call 32; clear hwa; refine (rmay_yes (c := { c with opn := false }) (n := n) (N := N) (nc := nc) (m := m) (D := D) (dc := dc) C1 HM.out).mono ?_; rintro e w1 ⟨rfl, hb⟩; have HA1 := Lib.hid (HA.out.trans (hb.mono HA.out.size)); have Z1 := Lib.hid (Z1.out.below hb Z1.out.lt); have Z2 := Lib.hid (Z2.out.below hb Z2.out.lt); have x := X0.out.below hb X0.out.lt; have c0 := x.cell 0; have c1 := x.cell 1; have c2 := x.cell 2; have c3 := x.cell 3; have c4 := x.cell 4; have c5 := x.cell 5; have c6 := x.cell 6; have c7 := x.cell 7; have c8 := x.cell 8; have c9 := x.cell 9; have c10 := x.cell 10; have c11 := x.cell 11; have fx := x.frozen; have X1 := Lib.hid x; have HS1 := Lib.hid (show bx + 1 + 1 + 1 ≤ w1.heap.size from by have := hb.size; have := HS.out; omega); have EB := Lib.hid (((((HE.out.below HA1.out).setCell (p := ⟨bx, 4, none⟩) (Nat.le_of_eq hbx) (.int .u64 ((c.seq : Int) + 1))).setCell (p := ⟨bx, 5, none⟩) (Nat.le_of_eq hbx) (.bool true)).setCell (p := ⟨bx, 6, none⟩) (Nat.le_of_eq hbx) (.int .i64 4)).setCell (p := ⟨bx, 7, none⟩) (Nat.le_of_eq hbx) (.string ⟨#[]⟩)); have EC := Lib.hid (EB.out.more (B' := ((((w1.setCell ⟨bx, 4, none⟩ (.int .u64 ((c.seq : Int) + 1))).setCell ⟨bx, 5, none⟩ (.bool true)).setCell ⟨bx, 6, none⟩ (.int .i64 4)).setCell ⟨bx, 7, none⟩ (.string ⟨#[]⟩)).heap.size) (by simp; have := HS1.out; omega)); clear x hb x0 x1 x2 x3 x4 x5 x6 x7 x8 x9 x10 x11; simp only [List.getElem?_toArray, List.getElem?_cons_zero, List.getElem?_cons_succ] at c0 c1 c2 c3 c4 c5 c6 c7 c8 c9 c10 c11)
    | (go_at_call 33; refine (copy_bytes E 0 ec (([] : List Nat).map bv) _ EC one (by omega)).mono ?_; rintro e w2 ⟨F, fc, rfl, q1, q2, q3, hb⟩; have HOF := Lib.hid q3; have HB2 := Lib.hid hb; have x := ((((X1.out.set_ 4 (.int .u64 ((c.seq : Int) + 1))).set_ 5 (.bool true)).set_ 6 (.int .i64 4)).set_ 7 (.string ⟨#[]⟩)).below hb (by simp; have := HS1.out; omega); have X2 := Lib.hid x; have v0 := x.cell 0; have v1 := x.cell 1; have v2 := x.cell 2; have v3 := x.cell 3; have v4 := x.cell 4; have v5 := x.cell 5; have v6 := x.cell 6; have v7 := x.cell 7; have v8 := x.cell 8; have v9 := x.cell 9; have v10 := x.cell 10; have v11 := x.cell 11; have fv := x.frozen; clear x hb q3; simp only [List.setIfInBounds_toArray, List.set_cons_zero, List.set_cons_succ, List.getElem?_toArray, List.getElem?_cons_zero, List.getElem?_cons_succ] at v0 v1 v2 v3 v4 v5 v6 v7 v8 v9 v10 v11))
  have O1 := (((Only.set_ w1 bx 4 (.int .u64 ((c.seq : Int) + 1))).trans (Only.set_ _ bx 5 (.bool true))).trans (Only.set_ _ bx 6 (.int .i64 4))).trans (Only.set_ _ bx 7 (.string ⟨#[]⟩))
  have O2 := (Only.set_ w2 bx 8 (.slice F 0 fc)).trans (Only.set_ _ bx 9 (.int .i64 0))
  have X3 := (X2.out.set_ 8 (.slice F 0 fc)).set_ 9 (.int .i64 0)
  simp only [List.setIfInBounds_toArray, List.set_cons_zero, List.set_cons_succ] at X3
  obtain ⟨wq, hwq⟩ : ∃ wq, (w2.setCell ⟨bx, 8, none⟩ (.slice F 0 fc)).setCell ⟨bx, 9, none⟩ (.int .i64 0) = wq := ⟨_, rfl⟩
  rw [hwq] at O2 X3 ⊢
  have hs2 : bx + 1 + 1 + 1 ≤ w2.heap.size := by have := HB2.out.size; have := O1.size; have := HS1.out; omega
  have HSQ := Lib.hid (show bx + 1 + 1 + 1 ≤ wq.heap.size from by rw [O2.size]; exact hs2)
  have b1 : Below bx w w1 := by have := HA1.out; rwa [hbx] at this
  have b2 : Below bx w1 w2 := (O1.below (Nat.le_refl _)).trans (HB2.out.mono (by rw [O1.size]; have := HS1.out; omega))
  have BQ := Lib.hid ((b1.trans b2).trans (O2.below (Nat.le_refl _)))
  have Z1 := Lib.hid (O2.blk ((O1.blk Z1.out (by omega)).below HB2.out (by rw [O1.size]; have := HS1.out; omega)) (by omega))
  have Z2 := Lib.hid (O2.blk ((O1.blk Z2.out (by omega)).below HB2.out (by rw [O1.size]; have := HS1.out; omega)) (by omega))
  have HOF2 := Lib.hid (O2.own HOF.out (own_up HOF.out (by rw [O1.size]; have := HS1.out; omega)))
  have HF1 := Lib.hid (show bx + 1 + 1 + 1 ≤ ((((w1.setCell ⟨bx, 4, none⟩ (.int .u64 ((c.seq : Int) + 1))).setCell ⟨bx, 5, none⟩ (.bool true)).setCell ⟨bx, 6, none⟩ (.int .i64 4)).setCell ⟨bx, 7, none⟩ (.string ⟨#[]⟩)).heap.size from by rw [O1.size]; exact HS1.out)
  have X3 := Lib.hid X3
  clear hwq O1 O2 hs2 b1 b2 v0 v1 v2 v3 v4 v5 v6 v7 v8 v9 v10 v11 fv c0 c1 c2 c3 c4 c5 c6 c7 c8 c9 c10 c11 fx
  have NQ := Lib.hid (h.out.nr.below (by have := BQ.out; rwa [← hbx] at this))
  have CQ := Lib.hid (show CalIn wq (Cal.calls c 4 ⟨#[]⟩ []) n N nc 0 F fc from ⟨h.out.nl, NQ.out.here (by omega), h.out.n1, h.out.n2, HEL.out, Reads.of_own HOF2.out, q1, q2, HEB.out⟩)
  refine wp_region_late (S0 := fun w' => Hid (Blk w' bx 40 #[.int .u64 c.client, .slice N n nc, .int .i64 c.at_, .int .i64 c.turn, .int .u64 ((c.seq : Int) + 1), .bool true, .int .i64 4, .string ⟨#[]⟩, .slice F 0 fc, .int .i64 0, .int .i64 c.retry, .int .i64 c.limit])) (S := fun _ => True) 3 6 (by kernel_rfl) rfl ⟨Lib.hid X3.out.drew, trivial⟩ (fun wd hwd hH => ?_)
  have DD := Lib.hid (show Below wq.heap.size wq wd from by rw [hwd]; exact (Below.refl _ _).drew)
  clear hwd
  have CD := Lib.hid (CQ.out.later DD.out)
  have Z1 := Lib.hid (Z1.out.below DD.out Z1.out.lt)
  have Z2 := Lib.hid (Z2.out.below DD.out Z2.out.lt)
  have HSD := Lib.hid (Nat.le_trans HSQ.out DD.out.size)
  refine wpAnyT_stay 0 rfl (by kernel_rfl) (fun _ _ _ h => h) (yields_load_blk rfl 40 (.tmp 4) rfl bx 40 #[.int .u64 c.client, .slice N n nc, .int .i64 c.at_, .int .i64 c.turn, .int .u64 ((c.seq : Int) + 1), .bool true, .int .i64 4, .string ⟨#[]⟩, .slice F 0 fc, .int .i64 0, .int .i64 c.retry, .int .i64 c.limit] _ rfl (fun w' hw' => hw'.out) Try.underlying40 rfl Try.sizeC) ⟨hH.1, fun _ => hH.2⟩ ?_
  simp only [Act.put, List.setIfInBounds_toArray, List.set_cons_zero, List.set_cons_succ]
  refine wpAnyT_stay 1 rfl (by kernel_rfl) (fun _ _ _ h => h) (yields_load_blk rfl 40 (.tmp 4) rfl bx 40 #[.int .u64 c.client, .slice N n nc, .int .i64 c.at_, .int .i64 c.turn, .int .u64 ((c.seq : Int) + 1), .bool true, .int .i64 4, .string ⟨#[]⟩, .slice F 0 fc, .int .i64 0, .int .i64 c.retry, .int .i64 c.limit] _ rfl (fun w' hw' => hw'.out) Try.underlying40 rfl Try.sizeC) ⟨hH.1, fun _ => hH.2⟩ ?_
  simp only [Act.put, List.setIfInBounds_toArray, List.set_cons_zero, List.set_cons_succ]
  refine wpAnyT_one 2 rfl (by kernel_rfl) (fun K hK => ?_)
  go_simp
  (go_at_call 34; refine (rmsg_any (Cal.calls c 4 ⟨#[]⟩ []) n N nc 0 F fc _ CD hcl ha0 ha1 hem).mono ?_; rintro e w3 ⟨u, rfl, ⟨um, U, uc, rfl, u1, u2, u3, u4⟩, hb⟩; have HB3 := Lib.hid hb; have HU := Lib.hid u4; clear hb u4)
  refine hK.out _ _ ⟨Lib.hid (hH.1.out.below HB3.out hH.1.out.lt), trivial⟩ (fun hH2 => ?_)
  clear hK K
  try simp only [Act.put, List.setIfInBounds_toArray, List.set_cons_zero, List.set_cons_succ]
  refine wpAnyT_last 3 rfl (by kernel_rfl) (by decide) (fun K hK => ?_)
  refine step_store_blk rfl 40 (.tmp 8) (.tmp 67) rfl (bx + 1) 40 #[.int .u64 0, .slice none 0 0, .int .i64 0, .int .i64 0, .int .u64 0, .bool false, .int .i64 0, .string ⟨#[]⟩, .slice none 0 0, .int .i64 0, .int .i64 0, .int .i64 0] #[.int .u64 c.client, .slice N n nc, .int .i64 c.at_, .int .i64 c.turn, .int .u64 ((c.seq : Int) + 1), .bool true, .int .i64 4, .string ⟨#[]⟩, .slice F 0 fc, .int .i64 0, .int .i64 c.retry, .int .i64 c.limit] rfl rfl (Z1.out.below HB3.out Z1.out.lt) rfl Try.sizeC rfl ?_
  intro w4 hB4 hO4
  refine hK.out _ _ (Lib.hid (hO4.out.blk hH2.1.out (by omega))) (fun hH3 => ?_)
  clear hK K
  try simp only [Act.put]
  refine wpAnyT_last 4 rfl (by kernel_rfl) (by decide) (fun K hK => ?_)
  refine step_store_blk rfl 38 (.tmp 9) (.tmp 69) rfl (bx + 1 + 1) 38 msgZ (askCs (Cal.calls c 4 ⟨#[]⟩ []) (Cal.calls c 4 ⟨#[]⟩ []).to um U uc) rfl rfl (hO4.out.blk (Z2.out.below HB3.out Z2.out.lt) (by omega)) rfl Try.sizeM rfl ?_
  intro w5 hB5 hO5
  refine hK.out _ _ (Lib.hid (hO5.out.blk hH3.out (by omega))) (fun hH4 => ?_)
  clear hK K
  try simp only [Act.put]
  refine wpAnyT_stay 5 (v := ?_) rfl (by kernel_rfl) (fun _ _ _ h => h) (Or.inl ⟨by rfl, ?_⟩) ⟨hH4, fun h => absurd h (by decide)⟩ ?_
  rotate_left
  · (intro wx hx; go_simp <;> with_reducible rfl)
  try simp only [Act.put, List.setIfInBounds_toArray, List.set_cons_zero, List.set_cons_succ]
  refine wpAnyT_done (by kernel_rfl) ?_ _
  have hU5 := hO5.out.own (hO4.out.own HU.out (own_up HU.out (by have := HSD.out; omega))) (own_up HU.out (by have := HSD.out; omega))
  have hF5 := hO5.out.own (hO4.out.own (own_below (own_below HOF2.out DD.out) HB3.out) (own_up HOF2.out (by have := HF1.out; omega))) (own_up HOF2.out (by have := HF1.out; omega))
  have hbF : Below bx w w5 := (((BQ.out.trans (DD.out.mono (by have := HSQ.out; omega))).trans (HB3.out.mono (by have := HSD.out; omega))).trans (hO4.out.below (by omega))).trans (hO5.out.below (by omega))
  have hN5 := h.out.nr.below (by have := hbF; rwa [← hbx] at this)
  have hfin := And.intro hU5 (And.intro hF5 (And.intro hbF hN5))
  have HFIN := Lib.hid hfin
  clear hU5 hF5 hbF hN5 hfin
  go_wp2
  refine bodyPost_ret (v := .tuple #[.agg #[.int .u64 c.client, .slice N n nc, .int .i64 c.at_, .int .i64 c.turn, .int .u64 ((c.seq : Int) + 1), .bool true, .int .i64 4, .string ⟨#[]⟩, .slice F 0 fc, .int .i64 0, .int .i64 c.retry, .int .i64 c.limit], .agg (askCs (Cal.calls c 4 ⟨#[]⟩ []) (Cal.calls c 4 ⟨#[]⟩ []).to um U uc), .int .i64 0]) (res_cct Try.results15 rfl rfl rfl (load_blk (hO5.out.blk hB4.out (by omega)) Try.underlying40 rfl Try.sizeC) (load_blk hB5.out Try.underlying38 rfl Try.sizeM)) rfl ⟨0, F, fc, _, rfl, HEL.out, q1, q2, own_base HFIN.out.2.1 (by rw [hbx]; have := HF1.out; omega), ⟨um, U, uc, rfl, u1, u2, u3, own_base HFIN.out.1 (by rw [hbx]; have := HSD.out; omega)⟩, by rw [hbx]; exact HFIN.out.2.2.1⟩
set_option maxRecDepth 100000 in
set_option maxHeartbeats 1000000 in
theorem rcall_yes1 (c : Cal) (n : Nat) (N : Option Addr) (nc m : Nat) (D : Option Addr) (dc : Nat) (key : ByteArray) (E : Option Addr) (em ec : Nat) (data : List Nat) (w : World) (h : Hid (CalIn w c n N nc m D dc)) (hm : May c) (ho : c.opn = false)
    (hel : data.length = em) (HE : Hid (Reads w w.heap.size 1 E em (data.map bv))) (heb : Byt data) (hem : em ≤ 140737488351232) (f3 : key.size ≤ 64) (hp : 0 < key.size) (f5 : em ≤ 65536) :
    Calls Try.prog 15 #[.agg (c.cs n N nc m D dc), .int .i64 1, .string key, .slice E em ec] w (RetCall (c.calls 1 key data) n N nc w) := by
  have hcl := hm.c2
  have ha0 := hm.a0
  have ha1 : c.at_ < n := by have := hm.a1; rwa [h.out.nl] at this
  have hs1 := hm.s1
  have n1 := key_some hp
  have n2 := key_full hp
  have HM := Lib.hid (may_opn hm false)
  have HEL := Lib.hid hel
  have HEB := Lib.hid heb
  clear hm hel heb
  have hseq : (c.seq : Int) ≤ 4611686018427387903 := by omega
  clear hs1
  have one := Lib.hid (bv_one data)
  unfold Cal.cs
  rw [ho]
  have HO := Lib.hid ho
  clear ho
  have hb0 := (((Below.refl w.heap.size w).alloc (Nat.le_refl _) (.cells #[.int .u64 c.client, .slice N n nc, .int .i64 c.at_, .int .i64 c.turn, .int .u64 c.seq, .bool false, .int .i64 c.kind, .string c.key, .slice D m dc, .int .i64 c.waited, .int .i64 c.retry, .int .i64 c.limit] 40)).alloc (by simp) (.cells #[.int .u64 0, .slice none 0 0, .int .i64 0, .int .i64 0, .int .u64 0, .bool false, .int .i64 0, .string ⟨#[]⟩, .slice none 0 0, .int .i64 0, .int .i64 0, .int .i64 0] 40)).alloc (by simp; omega) (.cells msgZ 38)
  have b0 := ((Blk.new w 40 #[.int .u64 c.client, .slice N n nc, .int .i64 c.at_, .int .i64 c.turn, .int .u64 c.seq, .bool false, .int .i64 c.kind, .string c.key, .slice D m dc, .int .i64 c.waited, .int .i64 c.retry, .int .i64 c.limit]).alloc (.cells #[.int .u64 0, .slice none 0 0, .int .i64 0, .int .i64 0, .int .u64 0, .bool false, .int .i64 0, .string ⟨#[]⟩, .slice none 0 0, .int .i64 0, .int .i64 0, .int .i64 0] 40)).alloc (.cells msgZ 38)
  have b1 := (blk_second w (.cells #[.int .u64 c.client, .slice N n nc, .int .i64 c.at_, .int .i64 c.turn, .int .u64 c.seq, .bool false, .int .i64 c.kind, .string c.key, .slice D m dc, .int .i64 c.waited, .int .i64 c.retry, .int .i64 c.limit] 40) 40 #[.int .u64 0, .slice none 0 0, .int .i64 0, .int .i64 0, .int .u64 0, .bool false, .int .i64 0, .string ⟨#[]⟩, .slice none 0 0, .int .i64 0, .int .i64 0, .int .i64 0]).alloc (.cells msgZ 38)
  have b2 := blk_second (w.alloc (.cells #[.int .u64 c.client, .slice N n nc, .int .i64 c.at_, .int .i64 c.turn, .int .u64 c.seq, .bool false, .int .i64 c.kind, .string c.key, .slice D m dc, .int .i64 c.waited, .int .i64 c.retry, .int .i64 c.limit] 40)) (.cells #[.int .u64 0, .slice none 0 0, .int .i64 0, .int .i64 0, .int .u64 0, .bool false, .int .i64 0, .string ⟨#[]⟩, .slice none 0 0, .int .i64 0, .int .i64 0, .int .i64 0] 40) 38 msgZ
  simp only [World.size_alloc] at b2
  obtain ⟨wa, hwa⟩ : ∃ wa, ((w.alloc (.cells #[.int .u64 c.client, .slice N n nc, .int .i64 c.at_, .int .i64 c.turn, .int .u64 c.seq, .bool false, .int .i64 c.kind, .string c.key, .slice D m dc, .int .i64 c.waited, .int .i64 c.retry, .int .i64 c.limit] 40)).alloc (.cells #[.int .u64 0, .slice none 0 0, .int .i64 0, .int .i64 0, .int .u64 0, .bool false, .int .i64 0, .string ⟨#[]⟩, .slice none 0 0, .int .i64 0, .int .i64 0, .int .i64 0] 40)).alloc (.cells msgZ 38) = wa := ⟨_, rfl⟩
  have hsz : wa.heap.size = w.heap.size + 1 + 1 + 1 := by rw [← hwa]; simp
  rw [hwa] at hb0 b0 b1 b2
  obtain ⟨bx, hbx⟩ : ∃ bx, w.heap.size = bx := ⟨_, rfl⟩
  have HBX := Lib.hid hbx
  rw [hbx] at b0 b1 b2 hsz
  have HS := Lib.hid hsz
  have HA := Lib.hid hb0
  have C1 := Lib.hid ((calin_opn h.out false).later hb0)
  have E1 := Lib.hid (HE.out.later hb0)
  have Z1 := Lib.hid b1
  have Z2 := Lib.hid b2
  have X0 := Lib.hid b0
  have x0 := b0.cell 0
  have x1 := b0.cell 1
  have x2 := b0.cell 2
  have x3 := b0.cell 3
  have x4 := b0.cell 4
  have x5 := b0.cell 5
  have x6 := b0.cell 6
  have x7 := b0.cell 7
  have x8 := b0.cell 8
  have x9 := b0.cell 9
  have x10 := b0.cell 10
  have x11 := b0.cell 11
  simp only [List.getElem?_toArray, List.getElem?_cons_zero, List.getElem?_cons_succ] at x0 x1 x2 x3 x4 x5 x6 x7 x8 x9 x10 x11
  clear hsz hb0 b0 b1 b2
  unfold msgZ at hwa
  go_enter Try.func15, Try.ntmps15
  go_wp2_with (first
    | (go_at_call 32; clear hwa; refine (rmay_yes (c := { c with opn := false }) (n := n) (N := N) (nc := nc) (m := m) (D := D) (dc := dc) C1 HM.out).mono ?_; rintro e w1 ⟨rfl, hb⟩; have HA1 := Lib.hid (HA.out.trans (hb.mono HA.out.size)); have Z1 := Lib.hid (Z1.out.below hb Z1.out.lt); have Z2 := Lib.hid (Z2.out.below hb Z2.out.lt); have x := X0.out.below hb X0.out.lt; have c0 := x.cell 0; have c1 := x.cell 1; have c2 := x.cell 2; have c3 := x.cell 3; have c4 := x.cell 4; have c5 := x.cell 5; have c6 := x.cell 6; have c7 := x.cell 7; have c8 := x.cell 8; have c9 := x.cell 9; have c10 := x.cell 10; have c11 := x.cell 11; have fx := x.frozen; have X1 := Lib.hid x; have HS1 := Lib.hid (show bx + 1 + 1 + 1 ≤ w1.heap.size from by have := hb.size; have := HS.out; omega); have EB := Lib.hid (((((HE.out.below HA1.out).setCell (p := ⟨bx, 4, none⟩) (Nat.le_of_eq hbx) (.int .u64 ((c.seq : Int) + 1))).setCell (p := ⟨bx, 5, none⟩) (Nat.le_of_eq hbx) (.bool true)).setCell (p := ⟨bx, 6, none⟩) (Nat.le_of_eq hbx) (.int .i64 1)).setCell (p := ⟨bx, 7, none⟩) (Nat.le_of_eq hbx) (.string key)); have EC := Lib.hid (EB.out.more (B' := ((((w1.setCell ⟨bx, 4, none⟩ (.int .u64 ((c.seq : Int) + 1))).setCell ⟨bx, 5, none⟩ (.bool true)).setCell ⟨bx, 6, none⟩ (.int .i64 1)).setCell ⟨bx, 7, none⟩ (.string key)).heap.size) (by simp; have := HS1.out; omega)); clear x hb x0 x1 x2 x3 x4 x5 x6 x7 x8 x9 x10 x11; simp only [List.getElem?_toArray, List.getElem?_cons_zero, List.getElem?_cons_succ] at c0 c1 c2 c3 c4 c5 c6 c7 c8 c9 c10 c11)
    | (go_at_call 33; refine (copy_bytes E em ec (data.map bv) _ EC one (by omega)).mono ?_; rintro e w2 ⟨F, fc, rfl, q1, q2, q3, hb⟩; have HOF := Lib.hid q3; have HB2 := Lib.hid hb; have x := ((((X1.out.set_ 4 (.int .u64 ((c.seq : Int) + 1))).set_ 5 (.bool true)).set_ 6 (.int .i64 1)).set_ 7 (.string key)).below hb (by simp; have := HS1.out; omega); have X2 := Lib.hid x; have v0 := x.cell 0; have v1 := x.cell 1; have v2 := x.cell 2; have v3 := x.cell 3; have v4 := x.cell 4; have v5 := x.cell 5; have v6 := x.cell 6; have v7 := x.cell 7; have v8 := x.cell 8; have v9 := x.cell 9; have v10 := x.cell 10; have v11 := x.cell 11; have fv := x.frozen; clear x hb q3; simp only [List.setIfInBounds_toArray, List.set_cons_zero, List.set_cons_succ, List.getElem?_toArray, List.getElem?_cons_zero, List.getElem?_cons_succ] at v0 v1 v2 v3 v4 v5 v6 v7 v8 v9 v10 v11))
  have O1 := (((Only.set_ w1 bx 4 (.int .u64 ((c.seq : Int) + 1))).trans (Only.set_ _ bx 5 (.bool true))).trans (Only.set_ _ bx 6 (.int .i64 1))).trans (Only.set_ _ bx 7 (.string key))
  have O2 := (Only.set_ w2 bx 8 (.slice F em fc)).trans (Only.set_ _ bx 9 (.int .i64 0))
  have X3 := (X2.out.set_ 8 (.slice F em fc)).set_ 9 (.int .i64 0)
  simp only [List.setIfInBounds_toArray, List.set_cons_zero, List.set_cons_succ] at X3
  obtain ⟨wq, hwq⟩ : ∃ wq, (w2.setCell ⟨bx, 8, none⟩ (.slice F em fc)).setCell ⟨bx, 9, none⟩ (.int .i64 0) = wq := ⟨_, rfl⟩
  rw [hwq] at O2 X3 ⊢
  have hs2 : bx + 1 + 1 + 1 ≤ w2.heap.size := by have := HB2.out.size; have := O1.size; have := HS1.out; omega
  have HSQ := Lib.hid (show bx + 1 + 1 + 1 ≤ wq.heap.size from by rw [O2.size]; exact hs2)
  have b1 : Below bx w w1 := by have := HA1.out; rwa [hbx] at this
  have b2 : Below bx w1 w2 := (O1.below (Nat.le_refl _)).trans (HB2.out.mono (by rw [O1.size]; have := HS1.out; omega))
  have BQ := Lib.hid ((b1.trans b2).trans (O2.below (Nat.le_refl _)))
  have Z1 := Lib.hid (O2.blk ((O1.blk Z1.out (by omega)).below HB2.out (by rw [O1.size]; have := HS1.out; omega)) (by omega))
  have Z2 := Lib.hid (O2.blk ((O1.blk Z2.out (by omega)).below HB2.out (by rw [O1.size]; have := HS1.out; omega)) (by omega))
  have HOF2 := Lib.hid (O2.own HOF.out (own_up HOF.out (by rw [O1.size]; have := HS1.out; omega)))
  have HF1 := Lib.hid (show bx + 1 + 1 + 1 ≤ ((((w1.setCell ⟨bx, 4, none⟩ (.int .u64 ((c.seq : Int) + 1))).setCell ⟨bx, 5, none⟩ (.bool true)).setCell ⟨bx, 6, none⟩ (.int .i64 1)).setCell ⟨bx, 7, none⟩ (.string key)).heap.size from by rw [O1.size]; exact HS1.out)
  have X3 := Lib.hid X3
  clear hwq O1 O2 hs2 b1 b2 v0 v1 v2 v3 v4 v5 v6 v7 v8 v9 v10 v11 fv c0 c1 c2 c3 c4 c5 c6 c7 c8 c9 c10 c11 fx
  have NQ := Lib.hid (h.out.nr.below (by have := BQ.out; rwa [← hbx] at this))
  have CQ := Lib.hid (show CalIn wq (c.calls 1 key data) n N nc em F fc from ⟨h.out.nl, NQ.out.here (by omega), h.out.n1, h.out.n2, HEL.out, Reads.of_own HOF2.out, q1, q2, HEB.out⟩)
  refine wp_region_late (S0 := fun w' => Hid (Blk w' bx 40 #[.int .u64 c.client, .slice N n nc, .int .i64 c.at_, .int .i64 c.turn, .int .u64 ((c.seq : Int) + 1), .bool true, .int .i64 1, .string key, .slice F em fc, .int .i64 0, .int .i64 c.retry, .int .i64 c.limit])) (S := fun _ => True) 3 6 (by kernel_rfl) rfl ⟨Lib.hid X3.out.drew, trivial⟩ (fun wd hwd hH => ?_)
  have DD := Lib.hid (show Below wq.heap.size wq wd from by rw [hwd]; exact (Below.refl _ _).drew)
  clear hwd
  have CD := Lib.hid (CQ.out.later DD.out)
  have Z1 := Lib.hid (Z1.out.below DD.out Z1.out.lt)
  have Z2 := Lib.hid (Z2.out.below DD.out Z2.out.lt)
  have HSD := Lib.hid (Nat.le_trans HSQ.out DD.out.size)
  refine wpAnyT_stay 0 rfl (by kernel_rfl) (fun _ _ _ h => h) (yields_load_blk rfl 40 (.tmp 4) rfl bx 40 #[.int .u64 c.client, .slice N n nc, .int .i64 c.at_, .int .i64 c.turn, .int .u64 ((c.seq : Int) + 1), .bool true, .int .i64 1, .string key, .slice F em fc, .int .i64 0, .int .i64 c.retry, .int .i64 c.limit] _ rfl (fun w' hw' => hw'.out) Try.underlying40 rfl Try.sizeC) ⟨hH.1, fun _ => hH.2⟩ ?_
  simp only [Act.put, List.setIfInBounds_toArray, List.set_cons_zero, List.set_cons_succ]
  refine wpAnyT_stay 1 rfl (by kernel_rfl) (fun _ _ _ h => h) (yields_load_blk rfl 40 (.tmp 4) rfl bx 40 #[.int .u64 c.client, .slice N n nc, .int .i64 c.at_, .int .i64 c.turn, .int .u64 ((c.seq : Int) + 1), .bool true, .int .i64 1, .string key, .slice F em fc, .int .i64 0, .int .i64 c.retry, .int .i64 c.limit] _ rfl (fun w' hw' => hw'.out) Try.underlying40 rfl Try.sizeC) ⟨hH.1, fun _ => hH.2⟩ ?_
  simp only [Act.put, List.setIfInBounds_toArray, List.set_cons_zero, List.set_cons_succ]
  refine wpAnyT_one 2 rfl (by kernel_rfl) (fun K hK => ?_)
  go_simp
  (go_at_call 34; refine (rmsg_any (c.calls 1 key data) n N nc em F fc _ CD hcl ha0 ha1 hem).mono ?_; rintro e w3 ⟨u, rfl, ⟨um, U, uc, rfl, u1, u2, u3, u4⟩, hb⟩; have HB3 := Lib.hid hb; have HU := Lib.hid u4; clear hb u4)
  refine hK.out _ _ ⟨Lib.hid (hH.1.out.below HB3.out hH.1.out.lt), trivial⟩ (fun hH2 => ?_)
  clear hK K
  try simp only [Act.put, List.setIfInBounds_toArray, List.set_cons_zero, List.set_cons_succ]
  refine wpAnyT_last 3 rfl (by kernel_rfl) (by decide) (fun K hK => ?_)
  refine step_store_blk rfl 40 (.tmp 8) (.tmp 67) rfl (bx + 1) 40 #[.int .u64 0, .slice none 0 0, .int .i64 0, .int .i64 0, .int .u64 0, .bool false, .int .i64 0, .string ⟨#[]⟩, .slice none 0 0, .int .i64 0, .int .i64 0, .int .i64 0] #[.int .u64 c.client, .slice N n nc, .int .i64 c.at_, .int .i64 c.turn, .int .u64 ((c.seq : Int) + 1), .bool true, .int .i64 1, .string key, .slice F em fc, .int .i64 0, .int .i64 c.retry, .int .i64 c.limit] rfl rfl (Z1.out.below HB3.out Z1.out.lt) rfl Try.sizeC rfl ?_
  intro w4 hB4 hO4
  refine hK.out _ _ (Lib.hid (hO4.out.blk hH2.1.out (by omega))) (fun hH3 => ?_)
  clear hK K
  try simp only [Act.put]
  refine wpAnyT_last 4 rfl (by kernel_rfl) (by decide) (fun K hK => ?_)
  refine step_store_blk rfl 38 (.tmp 9) (.tmp 69) rfl (bx + 1 + 1) 38 msgZ (askCs (c.calls 1 key data) (c.calls 1 key data).to um U uc) rfl rfl (hO4.out.blk (Z2.out.below HB3.out Z2.out.lt) (by omega)) rfl Try.sizeM rfl ?_
  intro w5 hB5 hO5
  refine hK.out _ _ (Lib.hid (hO5.out.blk hH3.out (by omega))) (fun hH4 => ?_)
  clear hK K
  try simp only [Act.put]
  refine wpAnyT_stay 5 (v := ?_) rfl (by kernel_rfl) (fun _ _ _ h => h) (Or.inl ⟨by rfl, ?_⟩) ⟨hH4, fun h => absurd h (by decide)⟩ ?_
  rotate_left
  · (intro wx hx; go_simp <;> with_reducible rfl)
  try simp only [Act.put, List.setIfInBounds_toArray, List.set_cons_zero, List.set_cons_succ]
  refine wpAnyT_done (by kernel_rfl) ?_ _
  have hU5 := hO5.out.own (hO4.out.own HU.out (own_up HU.out (by have := HSD.out; omega))) (own_up HU.out (by have := HSD.out; omega))
  have hF5 := hO5.out.own (hO4.out.own (own_below (own_below HOF2.out DD.out) HB3.out) (own_up HOF2.out (by have := HF1.out; omega))) (own_up HOF2.out (by have := HF1.out; omega))
  have hbF : Below bx w w5 := (((BQ.out.trans (DD.out.mono (by have := HSQ.out; omega))).trans (HB3.out.mono (by have := HSD.out; omega))).trans (hO4.out.below (by omega))).trans (hO5.out.below (by omega))
  have hN5 := h.out.nr.below (by have := hbF; rwa [← hbx] at this)
  have hfin := And.intro hU5 (And.intro hF5 (And.intro hbF hN5))
  have HFIN := Lib.hid hfin
  clear hU5 hF5 hbF hN5 hfin
  go_wp2
  refine bodyPost_ret (v := .tuple #[.agg #[.int .u64 c.client, .slice N n nc, .int .i64 c.at_, .int .i64 c.turn, .int .u64 ((c.seq : Int) + 1), .bool true, .int .i64 1, .string key, .slice F em fc, .int .i64 0, .int .i64 c.retry, .int .i64 c.limit], .agg (askCs (c.calls 1 key data) (c.calls 1 key data).to um U uc), .int .i64 0]) (res_cct Try.results15 rfl rfl rfl (load_blk (hO5.out.blk hB4.out (by omega)) Try.underlying40 rfl Try.sizeC) (load_blk hB5.out Try.underlying38 rfl Try.sizeM)) rfl ⟨em, F, fc, _, rfl, HEL.out, q1, q2, own_base HFIN.out.2.1 (by rw [hbx]; have := HF1.out; omega), ⟨um, U, uc, rfl, u1, u2, u3, own_base HFIN.out.1 (by rw [hbx]; have := HSD.out; omega)⟩, by rw [hbx]; exact HFIN.out.2.2.1⟩
set_option maxRecDepth 100000 in
set_option maxHeartbeats 1000000 in
theorem rcall_yes2 (c : Cal) (n : Nat) (N : Option Addr) (nc m : Nat) (D : Option Addr) (dc : Nat) (key : ByteArray) (E : Option Addr) (ec : Nat) (w : World) (h : Hid (CalIn w c n N nc m D dc)) (hm : May c) (ho : c.opn = false)
     (f3 : key.size ≤ 64) (hp : 0 < key.size) :
    Calls Try.prog 15 #[.agg (c.cs n N nc m D dc), .int .i64 2, .string key, .slice E 0 ec] w (RetCall (Cal.calls c 2 key []) n N nc w) := by
  have hcl := hm.c2
  have ha0 := hm.a0
  have ha1 : c.at_ < n := by have := hm.a1; rwa [h.out.nl] at this
  have hs1 := hm.s1
  have n1 := key_some hp
  have n2 := key_full hp
  have HM := Lib.hid (may_opn hm false)
  have HEL : Hid (([] : List Nat).length = 0) := Lib.hid rfl
  have HEB : Hid (Byt []) := Lib.hid (fun x hx => by cases hx)
  have HE : Hid (Reads w w.heap.size 1 E 0 (([] : List Nat).map bv)) := Lib.hid ⟨rfl, fun h => absurd h (by omega)⟩
  have hem : 0 ≤ 140737488351232 := by omega
  clear hm
  have hseq : (c.seq : Int) ≤ 4611686018427387903 := by omega
  clear hs1
  have one := Lib.hid (bv_one ([] : List Nat))
  unfold Cal.cs
  rw [ho]
  have HO := Lib.hid ho
  clear ho
  have hb0 := (((Below.refl w.heap.size w).alloc (Nat.le_refl _) (.cells #[.int .u64 c.client, .slice N n nc, .int .i64 c.at_, .int .i64 c.turn, .int .u64 c.seq, .bool false, .int .i64 c.kind, .string c.key, .slice D m dc, .int .i64 c.waited, .int .i64 c.retry, .int .i64 c.limit] 40)).alloc (by simp) (.cells #[.int .u64 0, .slice none 0 0, .int .i64 0, .int .i64 0, .int .u64 0, .bool false, .int .i64 0, .string ⟨#[]⟩, .slice none 0 0, .int .i64 0, .int .i64 0, .int .i64 0] 40)).alloc (by simp; omega) (.cells msgZ 38)
  have b0 := ((Blk.new w 40 #[.int .u64 c.client, .slice N n nc, .int .i64 c.at_, .int .i64 c.turn, .int .u64 c.seq, .bool false, .int .i64 c.kind, .string c.key, .slice D m dc, .int .i64 c.waited, .int .i64 c.retry, .int .i64 c.limit]).alloc (.cells #[.int .u64 0, .slice none 0 0, .int .i64 0, .int .i64 0, .int .u64 0, .bool false, .int .i64 0, .string ⟨#[]⟩, .slice none 0 0, .int .i64 0, .int .i64 0, .int .i64 0] 40)).alloc (.cells msgZ 38)
  have b1 := (blk_second w (.cells #[.int .u64 c.client, .slice N n nc, .int .i64 c.at_, .int .i64 c.turn, .int .u64 c.seq, .bool false, .int .i64 c.kind, .string c.key, .slice D m dc, .int .i64 c.waited, .int .i64 c.retry, .int .i64 c.limit] 40) 40 #[.int .u64 0, .slice none 0 0, .int .i64 0, .int .i64 0, .int .u64 0, .bool false, .int .i64 0, .string ⟨#[]⟩, .slice none 0 0, .int .i64 0, .int .i64 0, .int .i64 0]).alloc (.cells msgZ 38)
  have b2 := blk_second (w.alloc (.cells #[.int .u64 c.client, .slice N n nc, .int .i64 c.at_, .int .i64 c.turn, .int .u64 c.seq, .bool false, .int .i64 c.kind, .string c.key, .slice D m dc, .int .i64 c.waited, .int .i64 c.retry, .int .i64 c.limit] 40)) (.cells #[.int .u64 0, .slice none 0 0, .int .i64 0, .int .i64 0, .int .u64 0, .bool false, .int .i64 0, .string ⟨#[]⟩, .slice none 0 0, .int .i64 0, .int .i64 0, .int .i64 0] 40) 38 msgZ
  simp only [World.size_alloc] at b2
  obtain ⟨wa, hwa⟩ : ∃ wa, ((w.alloc (.cells #[.int .u64 c.client, .slice N n nc, .int .i64 c.at_, .int .i64 c.turn, .int .u64 c.seq, .bool false, .int .i64 c.kind, .string c.key, .slice D m dc, .int .i64 c.waited, .int .i64 c.retry, .int .i64 c.limit] 40)).alloc (.cells #[.int .u64 0, .slice none 0 0, .int .i64 0, .int .i64 0, .int .u64 0, .bool false, .int .i64 0, .string ⟨#[]⟩, .slice none 0 0, .int .i64 0, .int .i64 0, .int .i64 0] 40)).alloc (.cells msgZ 38) = wa := ⟨_, rfl⟩
  have hsz : wa.heap.size = w.heap.size + 1 + 1 + 1 := by rw [← hwa]; simp
  rw [hwa] at hb0 b0 b1 b2
  obtain ⟨bx, hbx⟩ : ∃ bx, w.heap.size = bx := ⟨_, rfl⟩
  have HBX := Lib.hid hbx
  rw [hbx] at b0 b1 b2 hsz
  have HS := Lib.hid hsz
  have HA := Lib.hid hb0
  have C1 := Lib.hid ((calin_opn h.out false).later hb0)
  have E1 := Lib.hid (HE.out.later hb0)
  have Z1 := Lib.hid b1
  have Z2 := Lib.hid b2
  have X0 := Lib.hid b0
  have x0 := b0.cell 0
  have x1 := b0.cell 1
  have x2 := b0.cell 2
  have x3 := b0.cell 3
  have x4 := b0.cell 4
  have x5 := b0.cell 5
  have x6 := b0.cell 6
  have x7 := b0.cell 7
  have x8 := b0.cell 8
  have x9 := b0.cell 9
  have x10 := b0.cell 10
  have x11 := b0.cell 11
  simp only [List.getElem?_toArray, List.getElem?_cons_zero, List.getElem?_cons_succ] at x0 x1 x2 x3 x4 x5 x6 x7 x8 x9 x10 x11
  clear hsz hb0 b0 b1 b2
  unfold msgZ at hwa
  go_enter Try.func15, Try.ntmps15
  go_wp2_with (first
    | (go_at_call 32; clear hwa; refine (rmay_yes (c := { c with opn := false }) (n := n) (N := N) (nc := nc) (m := m) (D := D) (dc := dc) C1 HM.out).mono ?_; rintro e w1 ⟨rfl, hb⟩; have HA1 := Lib.hid (HA.out.trans (hb.mono HA.out.size)); have Z1 := Lib.hid (Z1.out.below hb Z1.out.lt); have Z2 := Lib.hid (Z2.out.below hb Z2.out.lt); have x := X0.out.below hb X0.out.lt; have c0 := x.cell 0; have c1 := x.cell 1; have c2 := x.cell 2; have c3 := x.cell 3; have c4 := x.cell 4; have c5 := x.cell 5; have c6 := x.cell 6; have c7 := x.cell 7; have c8 := x.cell 8; have c9 := x.cell 9; have c10 := x.cell 10; have c11 := x.cell 11; have fx := x.frozen; have X1 := Lib.hid x; have HS1 := Lib.hid (show bx + 1 + 1 + 1 ≤ w1.heap.size from by have := hb.size; have := HS.out; omega); have EB := Lib.hid (((((HE.out.below HA1.out).setCell (p := ⟨bx, 4, none⟩) (Nat.le_of_eq hbx) (.int .u64 ((c.seq : Int) + 1))).setCell (p := ⟨bx, 5, none⟩) (Nat.le_of_eq hbx) (.bool true)).setCell (p := ⟨bx, 6, none⟩) (Nat.le_of_eq hbx) (.int .i64 2)).setCell (p := ⟨bx, 7, none⟩) (Nat.le_of_eq hbx) (.string key)); have EC := Lib.hid (EB.out.more (B' := ((((w1.setCell ⟨bx, 4, none⟩ (.int .u64 ((c.seq : Int) + 1))).setCell ⟨bx, 5, none⟩ (.bool true)).setCell ⟨bx, 6, none⟩ (.int .i64 2)).setCell ⟨bx, 7, none⟩ (.string key)).heap.size) (by simp; have := HS1.out; omega)); clear x hb x0 x1 x2 x3 x4 x5 x6 x7 x8 x9 x10 x11; simp only [List.getElem?_toArray, List.getElem?_cons_zero, List.getElem?_cons_succ] at c0 c1 c2 c3 c4 c5 c6 c7 c8 c9 c10 c11)
    | (go_at_call 33; refine (copy_bytes E 0 ec (([] : List Nat).map bv) _ EC one (by omega)).mono ?_; rintro e w2 ⟨F, fc, rfl, q1, q2, q3, hb⟩; have HOF := Lib.hid q3; have HB2 := Lib.hid hb; have x := ((((X1.out.set_ 4 (.int .u64 ((c.seq : Int) + 1))).set_ 5 (.bool true)).set_ 6 (.int .i64 2)).set_ 7 (.string key)).below hb (by simp; have := HS1.out; omega); have X2 := Lib.hid x; have v0 := x.cell 0; have v1 := x.cell 1; have v2 := x.cell 2; have v3 := x.cell 3; have v4 := x.cell 4; have v5 := x.cell 5; have v6 := x.cell 6; have v7 := x.cell 7; have v8 := x.cell 8; have v9 := x.cell 9; have v10 := x.cell 10; have v11 := x.cell 11; have fv := x.frozen; clear x hb q3; simp only [List.setIfInBounds_toArray, List.set_cons_zero, List.set_cons_succ, List.getElem?_toArray, List.getElem?_cons_zero, List.getElem?_cons_succ] at v0 v1 v2 v3 v4 v5 v6 v7 v8 v9 v10 v11))
  have O1 := (((Only.set_ w1 bx 4 (.int .u64 ((c.seq : Int) + 1))).trans (Only.set_ _ bx 5 (.bool true))).trans (Only.set_ _ bx 6 (.int .i64 2))).trans (Only.set_ _ bx 7 (.string key))
  have O2 := (Only.set_ w2 bx 8 (.slice F 0 fc)).trans (Only.set_ _ bx 9 (.int .i64 0))
  have X3 := (X2.out.set_ 8 (.slice F 0 fc)).set_ 9 (.int .i64 0)
  simp only [List.setIfInBounds_toArray, List.set_cons_zero, List.set_cons_succ] at X3
  obtain ⟨wq, hwq⟩ : ∃ wq, (w2.setCell ⟨bx, 8, none⟩ (.slice F 0 fc)).setCell ⟨bx, 9, none⟩ (.int .i64 0) = wq := ⟨_, rfl⟩
  rw [hwq] at O2 X3 ⊢
  have hs2 : bx + 1 + 1 + 1 ≤ w2.heap.size := by have := HB2.out.size; have := O1.size; have := HS1.out; omega
  have HSQ := Lib.hid (show bx + 1 + 1 + 1 ≤ wq.heap.size from by rw [O2.size]; exact hs2)
  have b1 : Below bx w w1 := by have := HA1.out; rwa [hbx] at this
  have b2 : Below bx w1 w2 := (O1.below (Nat.le_refl _)).trans (HB2.out.mono (by rw [O1.size]; have := HS1.out; omega))
  have BQ := Lib.hid ((b1.trans b2).trans (O2.below (Nat.le_refl _)))
  have Z1 := Lib.hid (O2.blk ((O1.blk Z1.out (by omega)).below HB2.out (by rw [O1.size]; have := HS1.out; omega)) (by omega))
  have Z2 := Lib.hid (O2.blk ((O1.blk Z2.out (by omega)).below HB2.out (by rw [O1.size]; have := HS1.out; omega)) (by omega))
  have HOF2 := Lib.hid (O2.own HOF.out (own_up HOF.out (by rw [O1.size]; have := HS1.out; omega)))
  have HF1 := Lib.hid (show bx + 1 + 1 + 1 ≤ ((((w1.setCell ⟨bx, 4, none⟩ (.int .u64 ((c.seq : Int) + 1))).setCell ⟨bx, 5, none⟩ (.bool true)).setCell ⟨bx, 6, none⟩ (.int .i64 2)).setCell ⟨bx, 7, none⟩ (.string key)).heap.size from by rw [O1.size]; exact HS1.out)
  have X3 := Lib.hid X3
  clear hwq O1 O2 hs2 b1 b2 v0 v1 v2 v3 v4 v5 v6 v7 v8 v9 v10 v11 fv c0 c1 c2 c3 c4 c5 c6 c7 c8 c9 c10 c11 fx
  have NQ := Lib.hid (h.out.nr.below (by have := BQ.out; rwa [← hbx] at this))
  have CQ := Lib.hid (show CalIn wq (Cal.calls c 2 key []) n N nc 0 F fc from ⟨h.out.nl, NQ.out.here (by omega), h.out.n1, h.out.n2, HEL.out, Reads.of_own HOF2.out, q1, q2, HEB.out⟩)
  refine wp_region_late (S0 := fun w' => Hid (Blk w' bx 40 #[.int .u64 c.client, .slice N n nc, .int .i64 c.at_, .int .i64 c.turn, .int .u64 ((c.seq : Int) + 1), .bool true, .int .i64 2, .string key, .slice F 0 fc, .int .i64 0, .int .i64 c.retry, .int .i64 c.limit])) (S := fun _ => True) 3 6 (by kernel_rfl) rfl ⟨Lib.hid X3.out.drew, trivial⟩ (fun wd hwd hH => ?_)
  have DD := Lib.hid (show Below wq.heap.size wq wd from by rw [hwd]; exact (Below.refl _ _).drew)
  clear hwd
  have CD := Lib.hid (CQ.out.later DD.out)
  have Z1 := Lib.hid (Z1.out.below DD.out Z1.out.lt)
  have Z2 := Lib.hid (Z2.out.below DD.out Z2.out.lt)
  have HSD := Lib.hid (Nat.le_trans HSQ.out DD.out.size)
  refine wpAnyT_stay 0 rfl (by kernel_rfl) (fun _ _ _ h => h) (yields_load_blk rfl 40 (.tmp 4) rfl bx 40 #[.int .u64 c.client, .slice N n nc, .int .i64 c.at_, .int .i64 c.turn, .int .u64 ((c.seq : Int) + 1), .bool true, .int .i64 2, .string key, .slice F 0 fc, .int .i64 0, .int .i64 c.retry, .int .i64 c.limit] _ rfl (fun w' hw' => hw'.out) Try.underlying40 rfl Try.sizeC) ⟨hH.1, fun _ => hH.2⟩ ?_
  simp only [Act.put, List.setIfInBounds_toArray, List.set_cons_zero, List.set_cons_succ]
  refine wpAnyT_stay 1 rfl (by kernel_rfl) (fun _ _ _ h => h) (yields_load_blk rfl 40 (.tmp 4) rfl bx 40 #[.int .u64 c.client, .slice N n nc, .int .i64 c.at_, .int .i64 c.turn, .int .u64 ((c.seq : Int) + 1), .bool true, .int .i64 2, .string key, .slice F 0 fc, .int .i64 0, .int .i64 c.retry, .int .i64 c.limit] _ rfl (fun w' hw' => hw'.out) Try.underlying40 rfl Try.sizeC) ⟨hH.1, fun _ => hH.2⟩ ?_
  simp only [Act.put, List.setIfInBounds_toArray, List.set_cons_zero, List.set_cons_succ]
  refine wpAnyT_one 2 rfl (by kernel_rfl) (fun K hK => ?_)
  go_simp
  (go_at_call 34; refine (rmsg_any (Cal.calls c 2 key []) n N nc 0 F fc _ CD hcl ha0 ha1 hem).mono ?_; rintro e w3 ⟨u, rfl, ⟨um, U, uc, rfl, u1, u2, u3, u4⟩, hb⟩; have HB3 := Lib.hid hb; have HU := Lib.hid u4; clear hb u4)
  refine hK.out _ _ ⟨Lib.hid (hH.1.out.below HB3.out hH.1.out.lt), trivial⟩ (fun hH2 => ?_)
  clear hK K
  try simp only [Act.put, List.setIfInBounds_toArray, List.set_cons_zero, List.set_cons_succ]
  refine wpAnyT_last 3 rfl (by kernel_rfl) (by decide) (fun K hK => ?_)
  refine step_store_blk rfl 40 (.tmp 8) (.tmp 67) rfl (bx + 1) 40 #[.int .u64 0, .slice none 0 0, .int .i64 0, .int .i64 0, .int .u64 0, .bool false, .int .i64 0, .string ⟨#[]⟩, .slice none 0 0, .int .i64 0, .int .i64 0, .int .i64 0] #[.int .u64 c.client, .slice N n nc, .int .i64 c.at_, .int .i64 c.turn, .int .u64 ((c.seq : Int) + 1), .bool true, .int .i64 2, .string key, .slice F 0 fc, .int .i64 0, .int .i64 c.retry, .int .i64 c.limit] rfl rfl (Z1.out.below HB3.out Z1.out.lt) rfl Try.sizeC rfl ?_
  intro w4 hB4 hO4
  refine hK.out _ _ (Lib.hid (hO4.out.blk hH2.1.out (by omega))) (fun hH3 => ?_)
  clear hK K
  try simp only [Act.put]
  refine wpAnyT_last 4 rfl (by kernel_rfl) (by decide) (fun K hK => ?_)
  refine step_store_blk rfl 38 (.tmp 9) (.tmp 69) rfl (bx + 1 + 1) 38 msgZ (askCs (Cal.calls c 2 key []) (Cal.calls c 2 key []).to um U uc) rfl rfl (hO4.out.blk (Z2.out.below HB3.out Z2.out.lt) (by omega)) rfl Try.sizeM rfl ?_
  intro w5 hB5 hO5
  refine hK.out _ _ (Lib.hid (hO5.out.blk hH3.out (by omega))) (fun hH4 => ?_)
  clear hK K
  try simp only [Act.put]
  refine wpAnyT_stay 5 (v := ?_) rfl (by kernel_rfl) (fun _ _ _ h => h) (Or.inl ⟨by rfl, ?_⟩) ⟨hH4, fun h => absurd h (by decide)⟩ ?_
  rotate_left
  · (intro wx hx; go_simp <;> with_reducible rfl)
  try simp only [Act.put, List.setIfInBounds_toArray, List.set_cons_zero, List.set_cons_succ]
  refine wpAnyT_done (by kernel_rfl) ?_ _
  have hU5 := hO5.out.own (hO4.out.own HU.out (own_up HU.out (by have := HSD.out; omega))) (own_up HU.out (by have := HSD.out; omega))
  have hF5 := hO5.out.own (hO4.out.own (own_below (own_below HOF2.out DD.out) HB3.out) (own_up HOF2.out (by have := HF1.out; omega))) (own_up HOF2.out (by have := HF1.out; omega))
  have hbF : Below bx w w5 := (((BQ.out.trans (DD.out.mono (by have := HSQ.out; omega))).trans (HB3.out.mono (by have := HSD.out; omega))).trans (hO4.out.below (by omega))).trans (hO5.out.below (by omega))
  have hN5 := h.out.nr.below (by have := hbF; rwa [← hbx] at this)
  have hfin := And.intro hU5 (And.intro hF5 (And.intro hbF hN5))
  have HFIN := Lib.hid hfin
  clear hU5 hF5 hbF hN5 hfin
  go_wp2
  refine bodyPost_ret (v := .tuple #[.agg #[.int .u64 c.client, .slice N n nc, .int .i64 c.at_, .int .i64 c.turn, .int .u64 ((c.seq : Int) + 1), .bool true, .int .i64 2, .string key, .slice F 0 fc, .int .i64 0, .int .i64 c.retry, .int .i64 c.limit], .agg (askCs (Cal.calls c 2 key []) (Cal.calls c 2 key []).to um U uc), .int .i64 0]) (res_cct Try.results15 rfl rfl rfl (load_blk (hO5.out.blk hB4.out (by omega)) Try.underlying40 rfl Try.sizeC) (load_blk hB5.out Try.underlying38 rfl Try.sizeM)) rfl ⟨0, F, fc, _, rfl, HEL.out, q1, q2, own_base HFIN.out.2.1 (by rw [hbx]; have := HF1.out; omega), ⟨um, U, uc, rfl, u1, u2, u3, own_base HFIN.out.1 (by rw [hbx]; have := HSD.out; omega)⟩, by rw [hbx]; exact HFIN.out.2.2.1⟩
set_option maxRecDepth 100000 in
set_option maxHeartbeats 1000000 in
theorem rcall_yes3 (c : Cal) (n : Nat) (N : Option Addr) (nc m : Nat) (D : Option Addr) (dc : Nat) (key : ByteArray) (E : Option Addr) (ec : Nat) (w : World) (h : Hid (CalIn w c n N nc m D dc)) (hm : May c) (ho : c.opn = false)
     (f3 : key.size ≤ 64) (hp : 0 < key.size) :
    Calls Try.prog 15 #[.agg (c.cs n N nc m D dc), .int .i64 3, .string key, .slice E 0 ec] w (RetCall (Cal.calls c 3 key []) n N nc w) := by
  have hcl := hm.c2
  have ha0 := hm.a0
  have ha1 : c.at_ < n := by have := hm.a1; rwa [h.out.nl] at this
  have hs1 := hm.s1
  have n1 := key_some hp
  have n2 := key_full hp
  have HM := Lib.hid (may_opn hm false)
  have HEL : Hid (([] : List Nat).length = 0) := Lib.hid rfl
  have HEB : Hid (Byt []) := Lib.hid (fun x hx => by cases hx)
  have HE : Hid (Reads w w.heap.size 1 E 0 (([] : List Nat).map bv)) := Lib.hid ⟨rfl, fun h => absurd h (by omega)⟩
  have hem : 0 ≤ 140737488351232 := by omega
  clear hm
  have hseq : (c.seq : Int) ≤ 4611686018427387903 := by omega
  clear hs1
  have one := Lib.hid (bv_one ([] : List Nat))
  unfold Cal.cs
  rw [ho]
  have HO := Lib.hid ho
  clear ho
  have hb0 := (((Below.refl w.heap.size w).alloc (Nat.le_refl _) (.cells #[.int .u64 c.client, .slice N n nc, .int .i64 c.at_, .int .i64 c.turn, .int .u64 c.seq, .bool false, .int .i64 c.kind, .string c.key, .slice D m dc, .int .i64 c.waited, .int .i64 c.retry, .int .i64 c.limit] 40)).alloc (by simp) (.cells #[.int .u64 0, .slice none 0 0, .int .i64 0, .int .i64 0, .int .u64 0, .bool false, .int .i64 0, .string ⟨#[]⟩, .slice none 0 0, .int .i64 0, .int .i64 0, .int .i64 0] 40)).alloc (by simp; omega) (.cells msgZ 38)
  have b0 := ((Blk.new w 40 #[.int .u64 c.client, .slice N n nc, .int .i64 c.at_, .int .i64 c.turn, .int .u64 c.seq, .bool false, .int .i64 c.kind, .string c.key, .slice D m dc, .int .i64 c.waited, .int .i64 c.retry, .int .i64 c.limit]).alloc (.cells #[.int .u64 0, .slice none 0 0, .int .i64 0, .int .i64 0, .int .u64 0, .bool false, .int .i64 0, .string ⟨#[]⟩, .slice none 0 0, .int .i64 0, .int .i64 0, .int .i64 0] 40)).alloc (.cells msgZ 38)
  have b1 := (blk_second w (.cells #[.int .u64 c.client, .slice N n nc, .int .i64 c.at_, .int .i64 c.turn, .int .u64 c.seq, .bool false, .int .i64 c.kind, .string c.key, .slice D m dc, .int .i64 c.waited, .int .i64 c.retry, .int .i64 c.limit] 40) 40 #[.int .u64 0, .slice none 0 0, .int .i64 0, .int .i64 0, .int .u64 0, .bool false, .int .i64 0, .string ⟨#[]⟩, .slice none 0 0, .int .i64 0, .int .i64 0, .int .i64 0]).alloc (.cells msgZ 38)
  have b2 := blk_second (w.alloc (.cells #[.int .u64 c.client, .slice N n nc, .int .i64 c.at_, .int .i64 c.turn, .int .u64 c.seq, .bool false, .int .i64 c.kind, .string c.key, .slice D m dc, .int .i64 c.waited, .int .i64 c.retry, .int .i64 c.limit] 40)) (.cells #[.int .u64 0, .slice none 0 0, .int .i64 0, .int .i64 0, .int .u64 0, .bool false, .int .i64 0, .string ⟨#[]⟩, .slice none 0 0, .int .i64 0, .int .i64 0, .int .i64 0] 40) 38 msgZ
  simp only [World.size_alloc] at b2
  obtain ⟨wa, hwa⟩ : ∃ wa, ((w.alloc (.cells #[.int .u64 c.client, .slice N n nc, .int .i64 c.at_, .int .i64 c.turn, .int .u64 c.seq, .bool false, .int .i64 c.kind, .string c.key, .slice D m dc, .int .i64 c.waited, .int .i64 c.retry, .int .i64 c.limit] 40)).alloc (.cells #[.int .u64 0, .slice none 0 0, .int .i64 0, .int .i64 0, .int .u64 0, .bool false, .int .i64 0, .string ⟨#[]⟩, .slice none 0 0, .int .i64 0, .int .i64 0, .int .i64 0] 40)).alloc (.cells msgZ 38) = wa := ⟨_, rfl⟩
  have hsz : wa.heap.size = w.heap.size + 1 + 1 + 1 := by rw [← hwa]; simp
  rw [hwa] at hb0 b0 b1 b2
  obtain ⟨bx, hbx⟩ : ∃ bx, w.heap.size = bx := ⟨_, rfl⟩
  have HBX := Lib.hid hbx
  rw [hbx] at b0 b1 b2 hsz
  have HS := Lib.hid hsz
  have HA := Lib.hid hb0
  have C1 := Lib.hid ((calin_opn h.out false).later hb0)
  have E1 := Lib.hid (HE.out.later hb0)
  have Z1 := Lib.hid b1
  have Z2 := Lib.hid b2
  have X0 := Lib.hid b0
  have x0 := b0.cell 0
  have x1 := b0.cell 1
  have x2 := b0.cell 2
  have x3 := b0.cell 3
  have x4 := b0.cell 4
  have x5 := b0.cell 5
  have x6 := b0.cell 6
  have x7 := b0.cell 7
  have x8 := b0.cell 8
  have x9 := b0.cell 9
  have x10 := b0.cell 10
  have x11 := b0.cell 11
  simp only [List.getElem?_toArray, List.getElem?_cons_zero, List.getElem?_cons_succ] at x0 x1 x2 x3 x4 x5 x6 x7 x8 x9 x10 x11
  clear hsz hb0 b0 b1 b2
  unfold msgZ at hwa
  go_enter Try.func15, Try.ntmps15
  go_wp2_with (first
    | (go_at_call 32; clear hwa; refine (rmay_yes (c := { c with opn := false }) (n := n) (N := N) (nc := nc) (m := m) (D := D) (dc := dc) C1 HM.out).mono ?_; rintro e w1 ⟨rfl, hb⟩; have HA1 := Lib.hid (HA.out.trans (hb.mono HA.out.size)); have Z1 := Lib.hid (Z1.out.below hb Z1.out.lt); have Z2 := Lib.hid (Z2.out.below hb Z2.out.lt); have x := X0.out.below hb X0.out.lt; have c0 := x.cell 0; have c1 := x.cell 1; have c2 := x.cell 2; have c3 := x.cell 3; have c4 := x.cell 4; have c5 := x.cell 5; have c6 := x.cell 6; have c7 := x.cell 7; have c8 := x.cell 8; have c9 := x.cell 9; have c10 := x.cell 10; have c11 := x.cell 11; have fx := x.frozen; have X1 := Lib.hid x; have HS1 := Lib.hid (show bx + 1 + 1 + 1 ≤ w1.heap.size from by have := hb.size; have := HS.out; omega); have EB := Lib.hid (((((HE.out.below HA1.out).setCell (p := ⟨bx, 4, none⟩) (Nat.le_of_eq hbx) (.int .u64 ((c.seq : Int) + 1))).setCell (p := ⟨bx, 5, none⟩) (Nat.le_of_eq hbx) (.bool true)).setCell (p := ⟨bx, 6, none⟩) (Nat.le_of_eq hbx) (.int .i64 3)).setCell (p := ⟨bx, 7, none⟩) (Nat.le_of_eq hbx) (.string key)); have EC := Lib.hid (EB.out.more (B' := ((((w1.setCell ⟨bx, 4, none⟩ (.int .u64 ((c.seq : Int) + 1))).setCell ⟨bx, 5, none⟩ (.bool true)).setCell ⟨bx, 6, none⟩ (.int .i64 3)).setCell ⟨bx, 7, none⟩ (.string key)).heap.size) (by simp; have := HS1.out; omega)); clear x hb x0 x1 x2 x3 x4 x5 x6 x7 x8 x9 x10 x11; simp only [List.getElem?_toArray, List.getElem?_cons_zero, List.getElem?_cons_succ] at c0 c1 c2 c3 c4 c5 c6 c7 c8 c9 c10 c11)
    | (go_at_call 33; refine (copy_bytes E 0 ec (([] : List Nat).map bv) _ EC one (by omega)).mono ?_; rintro e w2 ⟨F, fc, rfl, q1, q2, q3, hb⟩; have HOF := Lib.hid q3; have HB2 := Lib.hid hb; have x := ((((X1.out.set_ 4 (.int .u64 ((c.seq : Int) + 1))).set_ 5 (.bool true)).set_ 6 (.int .i64 3)).set_ 7 (.string key)).below hb (by simp; have := HS1.out; omega); have X2 := Lib.hid x; have v0 := x.cell 0; have v1 := x.cell 1; have v2 := x.cell 2; have v3 := x.cell 3; have v4 := x.cell 4; have v5 := x.cell 5; have v6 := x.cell 6; have v7 := x.cell 7; have v8 := x.cell 8; have v9 := x.cell 9; have v10 := x.cell 10; have v11 := x.cell 11; have fv := x.frozen; clear x hb q3; simp only [List.setIfInBounds_toArray, List.set_cons_zero, List.set_cons_succ, List.getElem?_toArray, List.getElem?_cons_zero, List.getElem?_cons_succ] at v0 v1 v2 v3 v4 v5 v6 v7 v8 v9 v10 v11))
  have O1 := (((Only.set_ w1 bx 4 (.int .u64 ((c.seq : Int) + 1))).trans (Only.set_ _ bx 5 (.bool true))).trans (Only.set_ _ bx 6 (.int .i64 3))).trans (Only.set_ _ bx 7 (.string key))
  have O2 := (Only.set_ w2 bx 8 (.slice F 0 fc)).trans (Only.set_ _ bx 9 (.int .i64 0))
  have X3 := (X2.out.set_ 8 (.slice F 0 fc)).set_ 9 (.int .i64 0)
  simp only [List.setIfInBounds_toArray, List.set_cons_zero, List.set_cons_succ] at X3
  obtain ⟨wq, hwq⟩ : ∃ wq, (w2.setCell ⟨bx, 8, none⟩ (.slice F 0 fc)).setCell ⟨bx, 9, none⟩ (.int .i64 0) = wq := ⟨_, rfl⟩
  rw [hwq] at O2 X3 ⊢
  have hs2 : bx + 1 + 1 + 1 ≤ w2.heap.size := by have := HB2.out.size; have := O1.size; have := HS1.out; omega
  have HSQ := Lib.hid (show bx + 1 + 1 + 1 ≤ wq.heap.size from by rw [O2.size]; exact hs2)
  have b1 : Below bx w w1 := by have := HA1.out; rwa [hbx] at this
  have b2 : Below bx w1 w2 := (O1.below (Nat.le_refl _)).trans (HB2.out.mono (by rw [O1.size]; have := HS1.out; omega))
  have BQ := Lib.hid ((b1.trans b2).trans (O2.below (Nat.le_refl _)))
  have Z1 := Lib.hid (O2.blk ((O1.blk Z1.out (by omega)).below HB2.out (by rw [O1.size]; have := HS1.out; omega)) (by omega))
  have Z2 := Lib.hid (O2.blk ((O1.blk Z2.out (by omega)).below HB2.out (by rw [O1.size]; have := HS1.out; omega)) (by omega))
  have HOF2 := Lib.hid (O2.own HOF.out (own_up HOF.out (by rw [O1.size]; have := HS1.out; omega)))
  have HF1 := Lib.hid (show bx + 1 + 1 + 1 ≤ ((((w1.setCell ⟨bx, 4, none⟩ (.int .u64 ((c.seq : Int) + 1))).setCell ⟨bx, 5, none⟩ (.bool true)).setCell ⟨bx, 6, none⟩ (.int .i64 3)).setCell ⟨bx, 7, none⟩ (.string key)).heap.size from by rw [O1.size]; exact HS1.out)
  have X3 := Lib.hid X3
  clear hwq O1 O2 hs2 b1 b2 v0 v1 v2 v3 v4 v5 v6 v7 v8 v9 v10 v11 fv c0 c1 c2 c3 c4 c5 c6 c7 c8 c9 c10 c11 fx
  have NQ := Lib.hid (h.out.nr.below (by have := BQ.out; rwa [← hbx] at this))
  have CQ := Lib.hid (show CalIn wq (Cal.calls c 3 key []) n N nc 0 F fc from ⟨h.out.nl, NQ.out.here (by omega), h.out.n1, h.out.n2, HEL.out, Reads.of_own HOF2.out, q1, q2, HEB.out⟩)
  refine wp_region_late (S0 := fun w' => Hid (Blk w' bx 40 #[.int .u64 c.client, .slice N n nc, .int .i64 c.at_, .int .i64 c.turn, .int .u64 ((c.seq : Int) + 1), .bool true, .int .i64 3, .string key, .slice F 0 fc, .int .i64 0, .int .i64 c.retry, .int .i64 c.limit])) (S := fun _ => True) 3 6 (by kernel_rfl) rfl ⟨Lib.hid X3.out.drew, trivial⟩ (fun wd hwd hH => ?_)
  have DD := Lib.hid (show Below wq.heap.size wq wd from by rw [hwd]; exact (Below.refl _ _).drew)
  clear hwd
  have CD := Lib.hid (CQ.out.later DD.out)
  have Z1 := Lib.hid (Z1.out.below DD.out Z1.out.lt)
  have Z2 := Lib.hid (Z2.out.below DD.out Z2.out.lt)
  have HSD := Lib.hid (Nat.le_trans HSQ.out DD.out.size)
  refine wpAnyT_stay 0 rfl (by kernel_rfl) (fun _ _ _ h => h) (yields_load_blk rfl 40 (.tmp 4) rfl bx 40 #[.int .u64 c.client, .slice N n nc, .int .i64 c.at_, .int .i64 c.turn, .int .u64 ((c.seq : Int) + 1), .bool true, .int .i64 3, .string key, .slice F 0 fc, .int .i64 0, .int .i64 c.retry, .int .i64 c.limit] _ rfl (fun w' hw' => hw'.out) Try.underlying40 rfl Try.sizeC) ⟨hH.1, fun _ => hH.2⟩ ?_
  simp only [Act.put, List.setIfInBounds_toArray, List.set_cons_zero, List.set_cons_succ]
  refine wpAnyT_stay 1 rfl (by kernel_rfl) (fun _ _ _ h => h) (yields_load_blk rfl 40 (.tmp 4) rfl bx 40 #[.int .u64 c.client, .slice N n nc, .int .i64 c.at_, .int .i64 c.turn, .int .u64 ((c.seq : Int) + 1), .bool true, .int .i64 3, .string key, .slice F 0 fc, .int .i64 0, .int .i64 c.retry, .int .i64 c.limit] _ rfl (fun w' hw' => hw'.out) Try.underlying40 rfl Try.sizeC) ⟨hH.1, fun _ => hH.2⟩ ?_
  simp only [Act.put, List.setIfInBounds_toArray, List.set_cons_zero, List.set_cons_succ]
  refine wpAnyT_one 2 rfl (by kernel_rfl) (fun K hK => ?_)
  go_simp
  (go_at_call 34; refine (rmsg_any (Cal.calls c 3 key []) n N nc 0 F fc _ CD hcl ha0 ha1 hem).mono ?_; rintro e w3 ⟨u, rfl, ⟨um, U, uc, rfl, u1, u2, u3, u4⟩, hb⟩; have HB3 := Lib.hid hb; have HU := Lib.hid u4; clear hb u4)
  refine hK.out _ _ ⟨Lib.hid (hH.1.out.below HB3.out hH.1.out.lt), trivial⟩ (fun hH2 => ?_)
  clear hK K
  try simp only [Act.put, List.setIfInBounds_toArray, List.set_cons_zero, List.set_cons_succ]
  refine wpAnyT_last 3 rfl (by kernel_rfl) (by decide) (fun K hK => ?_)
  refine step_store_blk rfl 40 (.tmp 8) (.tmp 67) rfl (bx + 1) 40 #[.int .u64 0, .slice none 0 0, .int .i64 0, .int .i64 0, .int .u64 0, .bool false, .int .i64 0, .string ⟨#[]⟩, .slice none 0 0, .int .i64 0, .int .i64 0, .int .i64 0] #[.int .u64 c.client, .slice N n nc, .int .i64 c.at_, .int .i64 c.turn, .int .u64 ((c.seq : Int) + 1), .bool true, .int .i64 3, .string key, .slice F 0 fc, .int .i64 0, .int .i64 c.retry, .int .i64 c.limit] rfl rfl (Z1.out.below HB3.out Z1.out.lt) rfl Try.sizeC rfl ?_
  intro w4 hB4 hO4
  refine hK.out _ _ (Lib.hid (hO4.out.blk hH2.1.out (by omega))) (fun hH3 => ?_)
  clear hK K
  try simp only [Act.put]
  refine wpAnyT_last 4 rfl (by kernel_rfl) (by decide) (fun K hK => ?_)
  refine step_store_blk rfl 38 (.tmp 9) (.tmp 69) rfl (bx + 1 + 1) 38 msgZ (askCs (Cal.calls c 3 key []) (Cal.calls c 3 key []).to um U uc) rfl rfl (hO4.out.blk (Z2.out.below HB3.out Z2.out.lt) (by omega)) rfl Try.sizeM rfl ?_
  intro w5 hB5 hO5
  refine hK.out _ _ (Lib.hid (hO5.out.blk hH3.out (by omega))) (fun hH4 => ?_)
  clear hK K
  try simp only [Act.put]
  refine wpAnyT_stay 5 (v := ?_) rfl (by kernel_rfl) (fun _ _ _ h => h) (Or.inl ⟨by rfl, ?_⟩) ⟨hH4, fun h => absurd h (by decide)⟩ ?_
  rotate_left
  · (intro wx hx; go_simp <;> with_reducible rfl)
  try simp only [Act.put, List.setIfInBounds_toArray, List.set_cons_zero, List.set_cons_succ]
  refine wpAnyT_done (by kernel_rfl) ?_ _
  have hU5 := hO5.out.own (hO4.out.own HU.out (own_up HU.out (by have := HSD.out; omega))) (own_up HU.out (by have := HSD.out; omega))
  have hF5 := hO5.out.own (hO4.out.own (own_below (own_below HOF2.out DD.out) HB3.out) (own_up HOF2.out (by have := HF1.out; omega))) (own_up HOF2.out (by have := HF1.out; omega))
  have hbF : Below bx w w5 := (((BQ.out.trans (DD.out.mono (by have := HSQ.out; omega))).trans (HB3.out.mono (by have := HSD.out; omega))).trans (hO4.out.below (by omega))).trans (hO5.out.below (by omega))
  have hN5 := h.out.nr.below (by have := hbF; rwa [← hbx] at this)
  have hfin := And.intro hU5 (And.intro hF5 (And.intro hbF hN5))
  have HFIN := Lib.hid hfin
  clear hU5 hF5 hbF hN5 hfin
  go_wp2
  refine bodyPost_ret (v := .tuple #[.agg #[.int .u64 c.client, .slice N n nc, .int .i64 c.at_, .int .i64 c.turn, .int .u64 ((c.seq : Int) + 1), .bool true, .int .i64 3, .string key, .slice F 0 fc, .int .i64 0, .int .i64 c.retry, .int .i64 c.limit], .agg (askCs (Cal.calls c 3 key []) (Cal.calls c 3 key []).to um U uc), .int .i64 0]) (res_cct Try.results15 rfl rfl rfl (load_blk (hO5.out.blk hB4.out (by omega)) Try.underlying40 rfl Try.sizeC) (load_blk hB5.out Try.underlying38 rfl Try.sizeM)) rfl ⟨0, F, fc, _, rfl, HEL.out, q1, q2, own_base HFIN.out.2.1 (by rw [hbx]; have := HF1.out; omega), ⟨um, U, uc, rfl, u1, u2, u3, own_base HFIN.out.1 (by rw [hbx]; have := HSD.out; omega)⟩, by rw [hbx]; exact HFIN.out.2.2.1⟩
theorem rcall_yes (c : Cal) (n : Nat) (N : Option Addr) (nc m : Nat) (D : Option Addr) (dc : Nat) (kind : Int) (key : ByteArray) (E : Option Addr) (em ec : Nat) (data : List Nat) (w : World) (h : Hid (CalIn w c n N nc m D dc)) (hm : May c) (ho : c.opn = false)
    (hel : data.length = em) (HE : Hid (Reads w w.heap.size 1 E em (data.map bv))) (heb : Byt data) (hem : em ≤ 140737488351232) (hcall : callB kind key.size em = true) :
    Calls Try.prog 15 #[.agg (c.cs n N nc m D dc), .int .i64 kind, .string key, .slice E em ec] w (RetCall (c.calls kind key data) n N nc w) := by
  have hc := of_decide_eq_true hcall
  rcases hc with ⟨rfl, k0, e0⟩ | ⟨rfl, k0, k1, e0⟩ | ⟨rfl | rfl, k0, k1, e0⟩
  · obtain rfl := key_none k0
    subst e0
    obtain rfl := List.eq_nil_of_length_eq_zero hel
    exact rcall_yes4 c n N nc m D dc E ec w h hm ho
  · exact rcall_yes1 c n N nc m D dc key E em ec data w h hm ho hel HE heb hem k1 k0 e0
  · subst e0
    obtain rfl := List.eq_nil_of_length_eq_zero hel
    exact rcall_yes2 c n N nc m D dc key E ec w h hm ho k1 k0
  · subst e0
    obtain rfl := List.eq_nil_of_length_eq_zero hel
    exact rcall_yes3 c n N nc m D dc key E ec w h hm ho k1 k0
end Go.Proofs.Ytmamdnikjfmenaa
