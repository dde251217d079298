/-
  Which calls may be (callable), and what refuses them.
-/
import Derived.Test.YtmamdnikjfmenaaClW5
namespace Go.Proofs.Ytmamdnikjfmenaa
open Go.RowKit
set_option linter.unusedVariables false
def callB (kind : Int) (ks em : Nat) : Bool := decide ((kind = 4 ∧ ks = 0 ∧ em = 0) ∨ (kind = 1 ∧ 0 < ks ∧ ks ≤ 64 ∧ em ≤ 65536) ∨ ((kind = 2 ∨ kind = 3) ∧ 0 < ks ∧ ks ≤ 64 ∧ em = 0))
theorem key_none {key : ByteArray} (h : key.size = 0) : key = ⟨#[]⟩ := by
  cases key with | mk d => cases d with | mk l => cases l with | nil => rfl | cons a l => simp [ByteArray.size] at h
theorem key_some {key : ByteArray} (h : 0 < key.size) : key.toList ≠ [] := by
  rw [ByteArray.toList_eq]
  intro e
  cases key with | mk d => cases d with | mk l => subst e; simp [ByteArray.size] at h
theorem key_full {key : ByteArray} (h : 0 < key.size) : key.toList.isEmpty = false := by
  cases e : key.toList with | nil => exact absurd e (key_some h) | cons a l => rfl
set_option maxRecDepth 100000 in
set_option maxHeartbeats 1000000 in
theorem callable_any (kind : Int) (key : ByteArray) (E : Option Addr) (em ec : Nat) (hk : key.size ≤ maxLen) (he : em ≤ maxLen) (w : World) :
    Calls Try.prog 29 #[.int .i64 kind, .string key, .slice E em ec] w fun e w' => e = .returned (.bool (callB kind key.size em)) ∧ w = w' := by
  unfold maxLen at hk he
  by_cases h0 : key.size = 0
  · obtain rfl := key_none h0
    clear h0 hk
    have z0 : (⟨#[]⟩ : ByteArray).size = 0 := rfl
    rw [z0]
    clear z0
    by_cases k4 : kind = 4
    · subst k4
      by_cases e0 : em = 0
      · subst e0
        have r : callB 4 0 0 = true := by unfold callB; exact decide_eq_true (by omega)
        rw [r]
        clear r
        go_enter Try.func29, Try.ntmps29
        go_wp2
        go_ret
        exact ⟨rfl, rfl⟩
      · have e1 : ((em : Int) == 0) = false := by simp; omega
        have r : callB 4 0 em = false := by unfold callB; exact decide_eq_false (by omega)
        rw [r]
        clear r
        clear e0
        go_enter Try.func29, Try.ntmps29
        go_wp2
        go_ret
        exact ⟨rfl, rfl⟩
    · by_cases k1 : kind = 1
      · subst k1
        have r : callB 1 0 em = false := by unfold callB; exact decide_eq_false (by omega)
        rw [r]
        clear r
        clear k4
        go_enter Try.func29, Try.ntmps29
        go_wp2
        go_ret
        exact ⟨rfl, rfl⟩
      · by_cases k2 : kind = 2
        · subst k2
          have r : callB 2 0 em = false := by unfold callB; exact decide_eq_false (by omega)
          rw [r]
          clear r
          clear k1 k4
          go_enter Try.func29, Try.ntmps29
          go_wp2
          go_ret
          exact ⟨rfl, rfl⟩
        · by_cases k3 : kind = 3
          · subst k3
            have r : callB 3 0 em = false := by unfold callB; exact decide_eq_false (by omega)
            rw [r]
            clear r
            clear k1 k4 k2
            go_enter Try.func29, Try.ntmps29
            go_wp2
            go_ret
            exact ⟨rfl, rfl⟩
          · have b1 : (kind == 1) = false := beq_false_of_ne k1
            have b2 : (kind == 2) = false := beq_false_of_ne k2
            have b3 : (kind == 3) = false := beq_false_of_ne k3
            have b4 : (kind == 4) = false := beq_false_of_ne k4
            have r : callB kind 0 em = false := by unfold callB; exact decide_eq_false (by omega)
            rw [r]
            clear r
            go_enter Try.func29, Try.ntmps29
            go_wp2
            go_ret
            exact ⟨rfl, rfl⟩
  · have hp : 0 < key.size := by omega
    have n1 := key_some hp
    have n2 := key_full hp
    clear h0
    by_cases k4 : kind = 4
    · subst k4
      have r : callB 4 key.size em = false := by unfold callB; exact decide_eq_false (by omega)
      rw [r]
      clear r
      go_enter Try.func29, Try.ntmps29
      go_wp2
      go_ret
      exact ⟨rfl, rfl⟩
    · by_cases k1 : kind = 1
      · subst k1
        by_cases s1 : key.size ≤ 64
        · by_cases e1 : em ≤ 65536
          · have e2 : decide ((em : Int) ≤ 65536) = true := decide_eq_true (by omega)
            have r : callB 1 key.size em = true := by unfold callB; exact decide_eq_true (by omega)
            rw [r]
            clear r
            clear k4
            go_enter Try.func29, Try.ntmps29
            go_wp2
            go_ret
            exact ⟨rfl, rfl⟩
          · have e2 : decide ((em : Int) ≤ 65536) = false := decide_eq_false (by omega)
            have r : callB 1 key.size em = false := by unfold callB; exact decide_eq_false (by omega)
            rw [r]
            clear r
            clear k4
            go_enter Try.func29, Try.ntmps29
            go_wp2
            go_ret
            exact ⟨rfl, rfl⟩
        · have r : callB 1 key.size em = false := by unfold callB; exact decide_eq_false (by omega)
          rw [r]
          clear r
          clear k4
          go_enter Try.func29, Try.ntmps29
          go_wp2
          go_ret
          exact ⟨rfl, rfl⟩
      · by_cases k2 : kind = 2
        · subst k2
          by_cases s1 : key.size ≤ 64
          · by_cases e0 : em = 0
            · subst e0
              have r : callB 2 key.size 0 = true := by unfold callB; exact decide_eq_true (by omega)
              rw [r]
              clear r
              clear k1 k4
              go_enter Try.func29, Try.ntmps29
              go_wp2
              go_ret
              exact ⟨rfl, rfl⟩
            · have e1 : ((em : Int) == 0) = false := by simp; omega
              have r : callB 2 key.size em = false := by unfold callB; exact decide_eq_false (by omega)
              rw [r]
              clear r
              clear k1 k4 e0
              go_enter Try.func29, Try.ntmps29
              go_wp2
              go_ret
              exact ⟨rfl, rfl⟩
          · have r : callB 2 key.size em = false := by unfold callB; exact decide_eq_false (by omega)
            rw [r]
            clear r
            clear k1 k4
            go_enter Try.func29, Try.ntmps29
            go_wp2
            go_ret
            exact ⟨rfl, rfl⟩
        · by_cases k3 : kind = 3
          · subst k3
            by_cases s1 : key.size ≤ 64
            · by_cases e0 : em = 0
              · subst e0
                have r : callB 3 key.size 0 = true := by unfold callB; exact decide_eq_true (by omega)
                rw [r]
                clear r
                clear k1 k4 k2
                go_enter Try.func29, Try.ntmps29
                go_wp2
                go_ret
                exact ⟨rfl, rfl⟩
              · have e1 : ((em : Int) == 0) = false := by simp; omega
                have r : callB 3 key.size em = false := by unfold callB; exact decide_eq_false (by omega)
                rw [r]
                clear r
                clear k1 k4 e0 k2
                go_enter Try.func29, Try.ntmps29
                go_wp2
                go_ret
                exact ⟨rfl, rfl⟩
            · have r : callB 3 key.size em = false := by unfold callB; exact decide_eq_false (by omega)
              rw [r]
              clear r
              clear k1 k4 k2
              go_enter Try.func29, Try.ntmps29
              go_wp2
              go_ret
              exact ⟨rfl, rfl⟩
          · have b1 : (kind == 1) = false := beq_false_of_ne k1
            have b2 : (kind == 2) = false := beq_false_of_ne k2
            have b3 : (kind == 3) = false := beq_false_of_ne k3
            have b4 : (kind == 4) = false := beq_false_of_ne k4
            have r : callB kind key.size em = false := by unfold callB; exact decide_eq_false (by omega)
            rw [r]
            clear r
            go_enter Try.func29, Try.ntmps29
            go_wp2
            go_ret
            exact ⟨rfl, rfl⟩
def RetRef (v : Array Value) (code : Int) (w : World) (e : Ending) (w' : World) : Prop := e = .returned (.tuple #[.agg v, .agg msgZ, .int .i64 code]) ∧ Below w.heap.size w w'
set_option maxRecDepth 100000 in
set_option maxHeartbeats 1000000 in
theorem call_may (c : Cal) (n : Nat) (N : Option Addr) (nc m : Nat) (D : Option Addr) (dc : Nat) (kind : Int) (key : ByteArray) (E : Option Addr) (em ec : Nat) (w : World) (h : Hid (CalIn w c n N nc m D dc)) (hm : ¬ May c) :
    Calls Try.prog 11 #[.agg (c.cs n N nc m D dc), .int .i64 kind, .string key, .slice E em ec] w (RetRef (Cal.zero.cs 0 none 0 0 none 0) 2 w) := by
  have HM := Lib.hid hm
  clear hm
  unfold Cal.cs
  unfold Cal.zero
  have hb0 := (((Below.refl w.heap.size w).alloc (Nat.le_refl _) (.cells #[.int .u64 c.client, .slice N n nc, .int .i64 c.at_, .int .i64 c.turn, .int .u64 c.seq, .bool c.opn, .int .i64 c.kind, .string c.key, .slice D m dc, .int .i64 c.waited, .int .i64 c.retry, .int .i64 c.limit] 40)).alloc (by simp) (.cells #[.int .u64 0, .slice none 0 0, .int .i64 0, .int .i64 0, .int .u64 0, .bool false, .int .i64 0, .string ⟨#[]⟩, .slice none 0 0, .int .i64 0, .int .i64 0, .int .i64 0] 40)).alloc (by simp; omega) (.cells msgZ 38)
  have b0 := ((Blk.new w 40 #[.int .u64 c.client, .slice N n nc, .int .i64 c.at_, .int .i64 c.turn, .int .u64 c.seq, .bool c.opn, .int .i64 c.kind, .string c.key, .slice D m dc, .int .i64 c.waited, .int .i64 c.retry, .int .i64 c.limit]).alloc (.cells #[.int .u64 0, .slice none 0 0, .int .i64 0, .int .i64 0, .int .u64 0, .bool false, .int .i64 0, .string ⟨#[]⟩, .slice none 0 0, .int .i64 0, .int .i64 0, .int .i64 0] 40)).alloc (.cells msgZ 38)
  have b1 := (blk_second w (.cells #[.int .u64 c.client, .slice N n nc, .int .i64 c.at_, .int .i64 c.turn, .int .u64 c.seq, .bool c.opn, .int .i64 c.kind, .string c.key, .slice D m dc, .int .i64 c.waited, .int .i64 c.retry, .int .i64 c.limit] 40) 40 #[.int .u64 0, .slice none 0 0, .int .i64 0, .int .i64 0, .int .u64 0, .bool false, .int .i64 0, .string ⟨#[]⟩, .slice none 0 0, .int .i64 0, .int .i64 0, .int .i64 0]).alloc (.cells msgZ 38)
  have b2 := blk_second (w.alloc (.cells #[.int .u64 c.client, .slice N n nc, .int .i64 c.at_, .int .i64 c.turn, .int .u64 c.seq, .bool c.opn, .int .i64 c.kind, .string c.key, .slice D m dc, .int .i64 c.waited, .int .i64 c.retry, .int .i64 c.limit] 40)) (.cells #[.int .u64 0, .slice none 0 0, .int .i64 0, .int .i64 0, .int .u64 0, .bool false, .int .i64 0, .string ⟨#[]⟩, .slice none 0 0, .int .i64 0, .int .i64 0, .int .i64 0] 40) 38 msgZ
  simp only [World.size_alloc] at b2
  obtain ⟨wa, hwa⟩ : ∃ wa, ((w.alloc (.cells #[.int .u64 c.client, .slice N n nc, .int .i64 c.at_, .int .i64 c.turn, .int .u64 c.seq, .bool c.opn, .int .i64 c.kind, .string c.key, .slice D m dc, .int .i64 c.waited, .int .i64 c.retry, .int .i64 c.limit] 40)).alloc (.cells #[.int .u64 0, .slice none 0 0, .int .i64 0, .int .i64 0, .int .u64 0, .bool false, .int .i64 0, .string ⟨#[]⟩, .slice none 0 0, .int .i64 0, .int .i64 0, .int .i64 0] 40)).alloc (.cells msgZ 38) = wa := ⟨_, rfl⟩
  have hsz : wa.heap.size = w.heap.size + 1 + 1 + 1 := by rw [← hwa]; simp
  rw [hwa] at hb0 b0 b1 b2
  obtain ⟨bx, hbx⟩ : ∃ bx, w.heap.size = bx := ⟨_, rfl⟩
  have HBX := Lib.hid hbx
  rw [hbx] at b0 b1 b2 hsz
  have HS := Lib.hid hsz
  have HA := Lib.hid hb0
  have C1 := Lib.hid (h.out.later hb0)
  have Z1 := Lib.hid b1
  have Z2 := Lib.hid b2
  have X0 := Lib.hid b0
  have x5 : wa.cell? ⟨bx, 5, none⟩ = some (.bool c.opn) := b0.cell 5
  clear hsz hb0 b0 b1 b2
  unfold msgZ at hwa
  go_enter Try.func11, Try.ntmps11
  go_wp2_with (first
    | (refine wpl_load_blk rfl 40 (.tmp 4) rfl bx 40 _ _ rfl X0.out Try.underlying40 rfl Try.sizeC ?_)
    | (go_at_call 22; clear hwa; refine (may_no (c := c) (n := n) (N := N) (nc := nc) (m := m) (D := D) (dc := dc) C1 HM.out).mono ?_; rintro e w1 ⟨rfl, hb⟩; have HA1 := Lib.hid (HA.out.trans (hb.mono HA.out.size)); have Z1 := Lib.hid (Z1.out.below hb Z1.out.lt); have Z2 := Lib.hid (Z2.out.below hb Z2.out.lt); have X0 := Lib.hid (X0.out.below hb X0.out.lt); have HS1 := Lib.hid (show bx + 1 + 1 + 1 ≤ w1.heap.size from by have := hb.size; have := HS.out; omega); have x5 : w1.cell? ⟨bx, 5, none⟩ = some (.bool c.opn) := X0.out.cell 5; clear hb)
    | (refine wpl_store_blk rfl 40 (.tmp 8) (.tmp 15) rfl (bx + 1) 40 #[.int .u64 0, .slice none 0 0, .int .i64 0, .int .i64 0, .int .u64 0, .bool false, .int .i64 0, .string ⟨#[]⟩, .slice none 0 0, .int .i64 0, .int .i64 0, .int .i64 0] #[.int .u64 0, .slice none 0 0, .int .i64 0, .int .i64 0, .int .u64 0, .bool false, .int .i64 0, .string ⟨#[]⟩, .slice none 0 0, .int .i64 0, .int .i64 0, .int .i64 0] rfl rfl Z1.out rfl Try.sizeC rfl ?_; intro w3 hB3 hO3)
    | (refine wpl_store_blk rfl 38 (.tmp 9) (.tmp 16) rfl (bx + 1 + 1) 38 msgZ msgZ rfl rfl (hO3.out.blk Z2.out (by omega)) rfl Try.sizeM rfl ?_; intro w4 hB4 hO4))
  have hbF : Below bx w w4 := (by have := HA1.out; rwa [hbx] at this : Below bx w w1).trans ((hO3.out.below (by omega)).trans (hO4.out.below (by omega)))
  refine bodyPost_ret (v := .tuple #[.agg #[.int .u64 0, .slice none 0 0, .int .i64 0, .int .i64 0, .int .u64 0, .bool false, .int .i64 0, .string ⟨#[]⟩, .slice none 0 0, .int .i64 0, .int .i64 0, .int .i64 0], .agg msgZ, .int .i64 2]) (res_cct Try.results11 rfl rfl rfl (load_blk (hO4.out.blk hB3.out (by omega)) Try.underlying40 rfl Try.sizeC) (load_blk hB4.out Try.underlying38 rfl Try.sizeM)) rfl ⟨rfl, by rw [hbx]; exact hbF⟩
set_option maxRecDepth 100000 in
set_option maxHeartbeats 1000000 in
theorem call_busy (c : Cal) (n : Nat) (N : Option Addr) (nc m : Nat) (D : Option Addr) (dc : Nat) (kind : Int) (key : ByteArray) (E : Option Addr) (em ec : Nat) (w : World) (h : Hid (CalIn w c n N nc m D dc)) (hm : May c) (ho : c.opn = true) :
    Calls Try.prog 11 #[.agg (c.cs n N nc m D dc), .int .i64 kind, .string key, .slice E em ec] w (RetRef (c.cs n N nc m D dc) 131 w) := by
  have HM := Lib.hid (may_opn hm true)
  clear hm
  unfold Cal.cs
  rw [ho]
  have HO := Lib.hid ho
  clear ho
  have hb0 := (((Below.refl w.heap.size w).alloc (Nat.le_refl _) (.cells #[.int .u64 c.client, .slice N n nc, .int .i64 c.at_, .int .i64 c.turn, .int .u64 c.seq, .bool true, .int .i64 c.kind, .string c.key, .slice D m dc, .int .i64 c.waited, .int .i64 c.retry, .int .i64 c.limit] 40)).alloc (by simp) (.cells #[.int .u64 0, .slice none 0 0, .int .i64 0, .int .i64 0, .int .u64 0, .bool false, .int .i64 0, .string ⟨#[]⟩, .slice none 0 0, .int .i64 0, .int .i64 0, .int .i64 0] 40)).alloc (by simp; omega) (.cells msgZ 38)
  have b0 := ((Blk.new w 40 #[.int .u64 c.client, .slice N n nc, .int .i64 c.at_, .int .i64 c.turn, .int .u64 c.seq, .bool true, .int .i64 c.kind, .string c.key, .slice D m dc, .int .i64 c.waited, .int .i64 c.retry, .int .i64 c.limit]).alloc (.cells #[.int .u64 0, .slice none 0 0, .int .i64 0, .int .i64 0, .int .u64 0, .bool false, .int .i64 0, .string ⟨#[]⟩, .slice none 0 0, .int .i64 0, .int .i64 0, .int .i64 0] 40)).alloc (.cells msgZ 38)
  have b1 := (blk_second w (.cells #[.int .u64 c.client, .slice N n nc, .int .i64 c.at_, .int .i64 c.turn, .int .u64 c.seq, .bool true, .int .i64 c.kind, .string c.key, .slice D m dc, .int .i64 c.waited, .int .i64 c.retry, .int .i64 c.limit] 40) 40 #[.int .u64 0, .slice none 0 0, .int .i64 0, .int .i64 0, .int .u64 0, .bool false, .int .i64 0, .string ⟨#[]⟩, .slice none 0 0, .int .i64 0, .int .i64 0, .int .i64 0]).alloc (.cells msgZ 38)
  have b2 := blk_second (w.alloc (.cells #[.int .u64 c.client, .slice N n nc, .int .i64 c.at_, .int .i64 c.turn, .int .u64 c.seq, .bool true, .int .i64 c.kind, .string c.key, .slice D m dc, .int .i64 c.waited, .int .i64 c.retry, .int .i64 c.limit] 40)) (.cells #[.int .u64 0, .slice none 0 0, .int .i64 0, .int .i64 0, .int .u64 0, .bool false, .int .i64 0, .string ⟨#[]⟩, .slice none 0 0, .int .i64 0, .int .i64 0, .int .i64 0] 40) 38 msgZ
  simp only [World.size_alloc] at b2
  obtain ⟨wa, hwa⟩ : ∃ wa, ((w.alloc (.cells #[.int .u64 c.client, .slice N n nc, .int .i64 c.at_, .int .i64 c.turn, .int .u64 c.seq, .bool true, .int .i64 c.kind, .string c.key, .slice D m dc, .int .i64 c.waited, .int .i64 c.retry, .int .i64 c.limit] 40)).alloc (.cells #[.int .u64 0, .slice none 0 0, .int .i64 0, .int .i64 0, .int .u64 0, .bool false, .int .i64 0, .string ⟨#[]⟩, .slice none 0 0, .int .i64 0, .int .i64 0, .int .i64 0] 40)).alloc (.cells msgZ 38) = wa := ⟨_, rfl⟩
  have hsz : wa.heap.size = w.heap.size + 1 + 1 + 1 := by rw [← hwa]; simp
  rw [hwa] at hb0 b0 b1 b2
  obtain ⟨bx, hbx⟩ : ∃ bx, w.heap.size = bx := ⟨_, rfl⟩
  have HBX := Lib.hid hbx
  rw [hbx] at b0 b1 b2 hsz
  have HS := Lib.hid hsz
  have HA := Lib.hid hb0
  have C1 := Lib.hid ((calin_opn h.out true).later hb0)
  have Z1 := Lib.hid b1
  have Z2 := Lib.hid b2
  have X0 := Lib.hid b0
  have x5 : wa.cell? ⟨bx, 5, none⟩ = some (.bool true) := b0.cell 5
  clear hsz hb0 b0 b1 b2
  unfold msgZ at hwa
  go_enter Try.func11, Try.ntmps11
  go_wp2_with (first
    | (refine wpl_load_blk rfl 40 (.tmp 4) rfl bx 40 _ _ rfl X0.out Try.underlying40 rfl Try.sizeC ?_)
    | (go_at_call 22; clear hwa; refine (may_yes (c := { c with opn := true }) (n := n) (N := N) (nc := nc) (m := m) (D := D) (dc := dc) C1 HM.out).mono ?_; rintro e w1 ⟨rfl, hb⟩; have HA1 := Lib.hid (HA.out.trans (hb.mono HA.out.size)); have Z1 := Lib.hid (Z1.out.below hb Z1.out.lt); have Z2 := Lib.hid (Z2.out.below hb Z2.out.lt); have X0 := Lib.hid (X0.out.below hb X0.out.lt); have HS1 := Lib.hid (show bx + 1 + 1 + 1 ≤ w1.heap.size from by have := hb.size; have := HS.out; omega); have x5 : w1.cell? ⟨bx, 5, none⟩ = some (.bool true) := X0.out.cell 5; clear hb)
    | (refine wpl_store_blk rfl 40 (.tmp 8) (.tmp 20) rfl (bx + 1) 40 #[.int .u64 0, .slice none 0 0, .int .i64 0, .int .i64 0, .int .u64 0, .bool false, .int .i64 0, .string ⟨#[]⟩, .slice none 0 0, .int .i64 0, .int .i64 0, .int .i64 0] #[.int .u64 c.client, .slice N n nc, .int .i64 c.at_, .int .i64 c.turn, .int .u64 c.seq, .bool true, .int .i64 c.kind, .string c.key, .slice D m dc, .int .i64 c.waited, .int .i64 c.retry, .int .i64 c.limit] rfl rfl Z1.out rfl Try.sizeC rfl ?_; intro w3 hB3 hO3)
    | (refine wpl_store_blk rfl 38 (.tmp 9) (.tmp 21) rfl (bx + 1 + 1) 38 msgZ msgZ rfl rfl (hO3.out.blk Z2.out (by omega)) rfl Try.sizeM rfl ?_; intro w4 hB4 hO4))
  have hbF : Below bx w w4 := (by have := HA1.out; rwa [hbx] at this : Below bx w w1).trans ((hO3.out.below (by omega)).trans (hO4.out.below (by omega)))
  refine bodyPost_ret (v := .tuple #[.agg #[.int .u64 c.client, .slice N n nc, .int .i64 c.at_, .int .i64 c.turn, .int .u64 c.seq, .bool true, .int .i64 c.kind, .string c.key, .slice D m dc, .int .i64 c.waited, .int .i64 c.retry, .int .i64 c.limit], .agg msgZ, .int .i64 131]) (res_cct Try.results11 rfl rfl rfl (load_blk (hO4.out.blk hB3.out (by omega)) Try.underlying40 rfl Try.sizeC) (load_blk hB4.out Try.underlying38 rfl Try.sizeM)) rfl ⟨rfl, by rw [hbx]; exact hbF⟩
set_option maxRecDepth 100000 in
set_option maxHeartbeats 1000000 in
theorem call_bad (c : Cal) (n : Nat) (N : Option Addr) (nc m : Nat) (D : Option Addr) (dc : Nat) (kind : Int) (key : ByteArray) (E : Option Addr) (em ec : Nat) (w : World) (h : Hid (CalIn w c n N nc m D dc)) (hm : May c) (ho : c.opn = false) (hcall : callB kind key.size em = false) (hk : key.size ≤ maxLen) (he : em ≤ maxLen) :
    Calls Try.prog 11 #[.agg (c.cs n N nc m D dc), .int .i64 kind, .string key, .slice E em ec] w (RetRef (c.cs n N nc m D dc) 2 w) := by
  have HCALL := Lib.hid (fun W : World => callable_any kind key E em ec hk he W)
  rw [hcall] at HCALL
  clear hcall hk he
  have HM := Lib.hid (may_opn hm false)
  clear hm
  unfold Cal.cs
  rw [ho]
  have HO := Lib.hid ho
  clear ho
  have hb0 := (((Below.refl w.heap.size w).alloc (Nat.le_refl _) (.cells #[.int .u64 c.client, .slice N n nc, .int .i64 c.at_, .int .i64 c.turn, .int .u64 c.seq, .bool false, .int .i64 c.kind, .string c.key, .slice D m dc, .int .i64 c.waited, .int .i64 c.retry, .int .i64 c.limit] 40)).alloc (by simp) (.cells #[.int .u64 0, .slice none 0 0, .int .i64 0, .int .i64 0, .int .u64 0, .bool false, .int .i64 0, .string ⟨#[]⟩, .slice none 0 0, .int .i64 0, .int .i64 0, .int .i64 0] 40)).alloc (by simp; omega) (.cells msgZ 38)
  have b0 := ((Blk.new w 40 #[.int .u64 c.client, .slice N n nc, .int .i64 c.at_, .int .i64 c.turn, .int .u64 c.seq, .bool false, .int .i64 c.kind, .string c.key, .slice D m dc, .int .i64 c.waited, .int .i64 c.retry, .int .i64 c.limit]).alloc (.cells #[.int .u64 0, .slice none 0 0, .int .i64 0, .int .i64 0, .int .u64 0, .bool false, .int .i64 0, .string ⟨#[]⟩, .slice none 0 0, .int .i64 0, .int .i64 0, .int .i64 0] 40)).alloc (.cells msgZ 38)
  have b1 := (blk_second w (.cells #[.int .u64 c.client, .slice N n nc, .int .i64 c.at_, .int .i64 c.turn, .int .u64 c.seq, .bool false, .int .i64 c.kind, .string c.key, .slice D m dc, .int .i64 c.waited, .int .i64 c.retry, .int .i64 c.limit] 40) 40 #[.int .u64 0, .slice none 0 0, .int .i64 0, .int .i64 0, .int .u64 0, .bool false, .int .i64 0, .string ⟨#[]⟩, .slice none 0 0, .int .i64 0, .int .i64 0, .int .i64 0]).alloc (.cells msgZ 38)
  have b2 := blk_second (w.alloc (.cells #[.int .u64 c.client, .slice N n nc, .int .i64 c.at_, .int .i64 c.turn, .int .u64 c.seq, .bool false, .int .i64 c.kind, .string c.key, .slice D m dc, .int .i64 c.waited, .int .i64 c.retry, .int .i64 c.limit] 40)) (.cells #[.int .u64 0, .slice none 0 0, .int .i64 0, .int .i64 0, .int .u64 0, .bool false, .int .i64 0, .string ⟨#[]⟩, .slice none 0 0, .int .i64 0, .int .i64 0, .int .i64 0] 40) 38 msgZ
  simp only [World.size_alloc] at b2
  obtain ⟨wa, hwa⟩ : ∃ wa, ((w.alloc (.cells #[.int .u64 c.client, .slice N n nc, .int .i64 c.at_, .int .i64 c.turn, .int .u64 c.seq, .bool false, .int .i64 c.kind, .string c.key, .slice D m dc, .int .i64 c.waited, .int .i64 c.retry, .int .i64 c.limit] 40)).alloc (.cells #[.int .u64 0, .slice none 0 0, .int .i64 0, .int .i64 0, .int .u64 0, .bool false, .int .i64 0, .string ⟨#[]⟩, .slice none 0 0, .int .i64 0, .int .i64 0, .int .i64 0] 40)).alloc (.cells msgZ 38) = wa := ⟨_, rfl⟩
  have hsz : wa.heap.size = w.heap.size + 1 + 1 + 1 := by rw [← hwa]; simp
  rw [hwa] at hb0 b0 b1 b2
  obtain ⟨bx, hbx⟩ : ∃ bx, w.heap.size = bx := ⟨_, rfl⟩
  have HBX := Lib.hid hbx
  rw [hbx] at b0 b1 b2 hsz
  have HS := Lib.hid hsz
  have HA := Lib.hid hb0
  have C1 := Lib.hid ((calin_opn h.out false).later hb0)
  have Z1 := Lib.hid b1
  have Z2 := Lib.hid b2
  have X0 := Lib.hid b0
  have x5 : wa.cell? ⟨bx, 5, none⟩ = some (.bool false) := b0.cell 5
  clear hsz hb0 b0 b1 b2
  unfold msgZ at hwa
  go_enter Try.func11, Try.ntmps11
  go_wp2_with (first
    | (refine wpl_load_blk rfl 40 (.tmp 4) rfl bx 40 _ _ rfl X0.out Try.underlying40 rfl Try.sizeC ?_)
    | (go_at_call 22; clear hwa; refine (may_yes (c := { c with opn := false }) (n := n) (N := N) (nc := nc) (m := m) (D := D) (dc := dc) C1 HM.out).mono ?_; rintro e w1 ⟨rfl, hb⟩; have HA1 := Lib.hid (HA.out.trans (hb.mono HA.out.size)); have Z1 := Lib.hid (Z1.out.below hb Z1.out.lt); have Z2 := Lib.hid (Z2.out.below hb Z2.out.lt); have X0 := Lib.hid (X0.out.below hb X0.out.lt); have HS1 := Lib.hid (show bx + 1 + 1 + 1 ≤ w1.heap.size from by have := hb.size; have := HS.out; omega); have x5 : w1.cell? ⟨bx, 5, none⟩ = some (.bool false) := X0.out.cell 5; clear hb)
    | (go_at_call 29; refine (HCALL.out _).mono ?_; rintro e w9 ⟨rfl, rfl⟩)
    | (refine wpl_store_blk rfl 40 (.tmp 8) (.tmp 28) rfl (bx + 1) 40 #[.int .u64 0, .slice none 0 0, .int .i64 0, .int .i64 0, .int .u64 0, .bool false, .int .i64 0, .string ⟨#[]⟩, .slice none 0 0, .int .i64 0, .int .i64 0, .int .i64 0] #[.int .u64 c.client, .slice N n nc, .int .i64 c.at_, .int .i64 c.turn, .int .u64 c.seq, .bool false, .int .i64 c.kind, .string c.key, .slice D m dc, .int .i64 c.waited, .int .i64 c.retry, .int .i64 c.limit] rfl rfl Z1.out rfl Try.sizeC rfl ?_; intro w3 hB3 hO3)
    | (refine wpl_store_blk rfl 38 (.tmp 9) (.tmp 29) rfl (bx + 1 + 1) 38 msgZ msgZ rfl rfl (hO3.out.blk Z2.out (by omega)) rfl Try.sizeM rfl ?_; intro w4 hB4 hO4))
  have hbF : Below bx w w4 := (by have := HA1.out; rwa [hbx] at this : Below bx w w1).trans ((hO3.out.below (by omega)).trans (hO4.out.below (by omega)))
  refine bodyPost_ret (v := .tuple #[.agg #[.int .u64 c.client, .slice N n nc, .int .i64 c.at_, .int .i64 c.turn, .int .u64 c.seq, .bool false, .int .i64 c.kind, .string c.key, .slice D m dc, .int .i64 c.waited, .int .i64 c.retry, .int .i64 c.limit], .agg msgZ, .int .i64 2]) (res_cct Try.results11 rfl rfl rfl (load_blk (hO4.out.blk hB3.out (by omega)) Try.underlying40 rfl Try.sizeC) (load_blk hB4.out Try.underlying38 rfl Try.sizeM)) rfl ⟨rfl, by rw [hbx]; exact hbF⟩
end Go.Proofs.Ytmamdnikjfmenaa
