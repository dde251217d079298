/-
  THE PROGRAM'S WRITER: the exported functions. (printed by gen_pas4.py). (joined out of PaS4 by shake.py)
-/
import Derived.Test.YthgiafjiemiifaaGreatPbk18
section
namespace Go.Proofs.YthgiafjiemiifaaGreat
open Go.RowKit OctMath
set_option linter.unusedVariables false
set_option maxRecDepth 100000 in
set_option maxHeartbeats 4000000 in
theorem wri_header (O : Option Addr) (on oc : Nat) (xs : List Nat) (x : HdT) (w : World) (hO : Hid (Reads w w.heap.size 1 O on (xs.map bv)))  (HO : HdOk x) (hl : on + 70 ≤ 70000000000000) :
    Calls Tryz.prog 85 #[.slice O on oc, .agg #[.int .u64 (x.id.ver : Int), .int .i64 x.id.idx, .int .u64 (x.id.ep : Int), .int .i64 x.k, .int .i64 x.n, .int .i64 x.size, .int .u32 (x.sum : Int)], .func (.func 86) #[] #[]] w (RetO (xs ++ pHd x) w) := by
  have hon : xs.length = on := by simpa using hO.out.1
  have HON := Lib.hid hon
  have hmk : ∀ W : World, (Instr.makeSlice 22 (.int .i64 0) (.int .i64 ((on : Int) + 64))).run Tryz.prog W = .ok (.slice (some ⟨W.heap.size, 0, none⟩) 0 (on + 64)) (W.alloc (.cells (madeCells #[.int .u8 0] (on + 64)) 5)) := fun W => by
    have := make0 (on + 64) (by omega) W
    rw [show ((on + 64 : Nat) : Int) = (on : Int) + 64 from by omega] at this
    exact this
  have HO := Lib.hid HO
  obtain ⟨ys, hys⟩ : ∃ ys, xs ++ pHd x = ys := ⟨_, rfl⟩
  have HYS := Lib.hid hys
  rw [hys]
  clear hys
  obtain ⟨w0, ew0⟩ : ∃ w0, w.alloc (.cells #[.int .u64 (x.id.ver : Int), .int .i64 x.id.idx, .int .u64 (x.id.ep : Int), .int .i64 x.k, .int .i64 x.n, .int .i64 x.size, .int .u32 (x.sum : Int)] 97) = w0 := ⟨_, rfl⟩
  have hb : Below w.heap.size w (w.alloc (.cells #[.int .u64 (x.id.ver : Int), .int .i64 x.id.idx, .int .u64 (x.id.ep : Int), .int .i64 x.k, .int .i64 x.n, .int .i64 x.size, .int .u32 (x.sum : Int)] 97)) := (Below.refl _ _).alloc (Nat.le_refl _) _
  have hx : Blk (w.alloc (.cells #[.int .u64 (x.id.ver : Int), .int .i64 x.id.idx, .int .u64 (x.id.ep : Int), .int .i64 x.k, .int .i64 x.n, .int .i64 x.size, .int .u32 (x.sum : Int)] 97)) w.heap.size 97 #[.int .u64 (x.id.ver : Int), .int .i64 x.id.idx, .int .u64 (x.id.ep : Int), .int .i64 x.k, .int .i64 x.n, .int .i64 x.size, .int .u32 (x.sum : Int)] := Blk.new w _ _
  rw [ew0] at hb hx
  have hsz : w0.heap.size = w.heap.size + 1 := by rw [← ew0]; simp
  have HB0 := Lib.hid hb
  have HX0 := Lib.hid hx
  have HS0 := Lib.hid hsz
  clear hb hx hsz hon
  go_enter Tryz.func85, Tryz.ntmps85
  go_wp2_with (first
    | (at_builtin
       refine wpl_append rfl (.tmp 11) (.tmp 12) _ rfl w0 w0.heap.size 5 _ 1 1 Tryz.underlying22 Tryz.infoU8 rfl (by decide) (.slice (some ⟨w0.heap.size, 0, none⟩) 0 (on + 64)) 0 [] rfl ?own (w0.heap.size + 1) O on oc (xs.map bv) rfl ?rd (bv_one xs) (by omega) (by decide) ?bel ?base ?_
       case own => exact World.ownsRow_made w0 _ _ (Nat.le_refl _) (by unfold maxLen; omega) (by rw [size_madeCells, Nat.mul_one])
       case rd => exact ((hO.out.later HB0.out).alloc (Nat.le_refl _) _).more (by simp)
       case bel => exact (Below.refl _ _).alloc (Nat.le_refl _) _
       case base => simp
       intro v1 w1 hh
       obtain ⟨PA, pn, pc, rfl⟩ : ∃ PA pn pc, v1 = .slice PA pn pc := (by obtain ⟨x, y, e, _⟩ := own_slice hh.out.1; exact ⟨_, _, _, e⟩)
       have h1 := hh.out.1
       have h2 := hh.out.2.1
       have h3 := hh.out.2.2
       have hbs : Below w0.heap.size w0 (w1.alloc (.cells #[.slice PA pn pc] 119)) := h2.alloc h3 _
       have hsh : Sh (fun k => k < w.heap.size) w1.heap.size xs (w1.alloc (.cells #[.slice PA pn pc] 119)) := (by
         refine ⟨⟨_, Blk.new _ _ _, ?_, fun e => by have := (h1.lt _ e).2; omega, fun k hk e => by have := (h1.lt _ e).1; have := HS0.out; omega⟩⟩
         have h := own_baseO h1 (Nat.zero_le _)
         rw [HON.out]
         simpa using h.alloc _)
       obtain ⟨w2, ew2⟩ : ∃ w2, w1.alloc (.cells #[.slice PA pn pc] 119) = w2 := ⟨_, rfl⟩
       rw [ew2] at hbs hsh
       have HX2 := Lib.hid (HX0.out.below hbs (by have := HS0.out; omega))
       have HB4 := Lib.hid (show Below w.heap.size w w2 from HB0.out.trans (hbs.mono (by have := HS0.out; omega)))
       have HSH := Lib.hid hsh
       have HSF := Lib.hid (show Safe (fun k => k < w.heap.size) w1.heap.size w2 from fun k hk => ⟨Nat.lt_of_lt_of_le hk HB4.out.size, by have := HS0.out; omega⟩)
       clear ew0 hmk h1 h2 h3 hbs hsh)
    | (refine wpl_load_blk rfl 97 (.tmp 4) rfl w.heap.size 97 _ _ rfl HX2.out Tryz.underlying97 rfl Tryz.sizeH ?_)
    | (go_at_call 86; refine (sh_header (fun k => k < w.heap.size) w1.heap.size xs x w2 HSH HSF  HO.out (by have := HON.out; omega)).mono ?_; rintro e w3 ⟨rfl, h1, h2⟩
       rw [HYS.out] at h1
       have HK3 := Lib.hid h2
       obtain ⟨pv, pB, pO, -, -⟩ := h1.out
       obtain ⟨A3, c3, rfl, -, -⟩ := own_slice pO
       have z0 := pB.cell 0
       have HR := Lib.hid (Reads.of_own pO)
       clear h1 h2 pB pO ew2))
  go_ret
  refine ⟨_, _, rfl, HR.out, ?_⟩
  exact HB4.out.trans (HK3.out.toBelow HB4.out.size (fun k hk => hk))
set_option maxRecDepth 100000 in
set_option maxHeartbeats 4000000 in
theorem put_header (O : Option Addr) (on oc : Nat) (xs : List Nat) (x : HdT) (w : World) (hO : Hid (Reads w w.heap.size 1 O on (xs.map bv)))  (HO : HdOk x) (hl : on + 70 ≤ 70000000000000) :
    Calls Tryz.prog 35 #[.slice O on oc, .agg #[.int .u64 (x.id.ver : Int), .int .i64 x.id.idx, .int .u64 (x.id.ep : Int), .int .i64 x.k, .int .i64 x.n, .int .i64 x.size, .int .u32 (x.sum : Int)]] w (RetO (xs ++ pHd x) w) := by
  obtain ⟨w0, ew0⟩ : ∃ w0, w.alloc (.cells #[.int .u64 (x.id.ver : Int), .int .i64 x.id.idx, .int .u64 (x.id.ep : Int), .int .i64 x.k, .int .i64 x.n, .int .i64 x.size, .int .u32 (x.sum : Int)] 97) = w0 := ⟨_, rfl⟩
  have hb : Below w.heap.size w (w.alloc (.cells #[.int .u64 (x.id.ver : Int), .int .i64 x.id.idx, .int .u64 (x.id.ep : Int), .int .i64 x.k, .int .i64 x.n, .int .i64 x.size, .int .u32 (x.sum : Int)] 97)) := (Below.refl _ _).alloc (Nat.le_refl _) _
  have hx : Blk (w.alloc (.cells #[.int .u64 (x.id.ver : Int), .int .i64 x.id.idx, .int .u64 (x.id.ep : Int), .int .i64 x.k, .int .i64 x.n, .int .i64 x.size, .int .u32 (x.sum : Int)] 97)) w.heap.size 97 #[.int .u64 (x.id.ver : Int), .int .i64 x.id.idx, .int .u64 (x.id.ep : Int), .int .i64 x.k, .int .i64 x.n, .int .i64 x.size, .int .u32 (x.sum : Int)] := Blk.new w _ _
  rw [ew0] at hb hx
  have HX0 := Lib.hid hx
  have HB0 := Lib.hid hb
  obtain ⟨ys, hys⟩ : ∃ ys, xs ++ pHd x = ys := ⟨_, rfl⟩
  rw [hys]
  have HC := Lib.hid (wri_header O on oc xs x w0 (Lib.hid (hO.out.later hb))  HO hl)
  rw [hys] at HC
  clear hx hb hys
  go_enter Tryz.func35, Tryz.ntmps35
  go_wp2_with (first
    | (refine wpl_load_blk rfl 97 (.tmp 3) rfl w.heap.size 97 _ _ rfl HX0.out Tryz.underlying97 rfl Tryz.sizeH ?_)
    | (go_at_call 85; refine HC.out.mono ?_; rintro e w1 ⟨A1, c1, rfl, r1, hb1⟩; have HR := Lib.hid (And.intro r1 hb1); clear r1 hb1))
  go_ret
  exact ⟨_, _, rfl, HR.out.1, HB0.out.trans (HR.out.2.mono HB0.out.size)⟩
set_option maxRecDepth 100000 in
set_option maxHeartbeats 4000000 in
theorem wri_conf (O : Option Addr) (on oc : Nat) (xs : List Nat) (A : Option Addr) (c : Nat) (B : Option Addr) (d : Nat) (x : List Int × List Int) (w : World) (hO : Hid (Reads w w.heap.size 1 O on (xs.map bv))) (hK : Hid (Reads w w.heap.size 1 A x.1.length (x.1.map iv))) (hJ : Hid (Reads w w.heap.size 1 B x.2.length (x.2.map iv))) (HO : IntsOk x.1 ∧ IntsOk x.2) (hl : on + 20971590 ≤ 70000000000000) :
    Calls Tryz.prog 83 #[.slice O on oc, .agg #[.slice A x.1.length c, .slice B x.2.length d], .func (.func 52) #[] #[]] w (RetO (xs ++ pConf x) w) := by
  have hon : xs.length = on := by simpa using hO.out.1
  have HON := Lib.hid hon
  have hmk : ∀ W : World, (Instr.makeSlice 22 (.int .i64 0) (.int .i64 ((on : Int) + 64))).run Tryz.prog W = .ok (.slice (some ⟨W.heap.size, 0, none⟩) 0 (on + 64)) (W.alloc (.cells (madeCells #[.int .u8 0] (on + 64)) 5)) := fun W => by
    have := make0 (on + 64) (by omega) W
    rw [show ((on + 64 : Nat) : Int) = (on : Int) + 64 from by omega] at this
    exact this
  have HO := Lib.hid HO
  obtain ⟨ys, hys⟩ : ∃ ys, xs ++ pConf x = ys := ⟨_, rfl⟩
  have HYS := Lib.hid hys
  rw [hys]
  clear hys
  obtain ⟨w0, ew0⟩ : ∃ w0, w.alloc (.cells #[.slice A x.1.length c, .slice B x.2.length d] 36) = w0 := ⟨_, rfl⟩
  have hb : Below w.heap.size w (w.alloc (.cells #[.slice A x.1.length c, .slice B x.2.length d] 36)) := (Below.refl _ _).alloc (Nat.le_refl _) _
  have hx : Blk (w.alloc (.cells #[.slice A x.1.length c, .slice B x.2.length d] 36)) w.heap.size 36 #[.slice A x.1.length c, .slice B x.2.length d] := Blk.new w _ _
  rw [ew0] at hb hx
  have hsz : w0.heap.size = w.heap.size + 1 := by rw [← ew0]; simp
  have HB0 := Lib.hid hb
  have HX0 := Lib.hid hx
  have HS0 := Lib.hid hsz
  clear hb hx hsz hon
  go_enter Tryz.func83, Tryz.ntmps83
  go_wp2_with (first
    | (at_builtin
       refine wpl_append rfl (.tmp 11) (.tmp 12) _ rfl w0 w0.heap.size 5 _ 1 1 Tryz.underlying22 Tryz.infoU8 rfl (by decide) (.slice (some ⟨w0.heap.size, 0, none⟩) 0 (on + 64)) 0 [] rfl ?own (w0.heap.size + 1) O on oc (xs.map bv) rfl ?rd (bv_one xs) (by omega) (by decide) ?bel ?base ?_
       case own => exact World.ownsRow_made w0 _ _ (Nat.le_refl _) (by unfold maxLen; omega) (by rw [size_madeCells, Nat.mul_one])
       case rd => exact ((hO.out.later HB0.out).alloc (Nat.le_refl _) _).more (by simp)
       case bel => exact (Below.refl _ _).alloc (Nat.le_refl _) _
       case base => simp
       intro v1 w1 hh
       obtain ⟨PA, pn, pc, rfl⟩ : ∃ PA pn pc, v1 = .slice PA pn pc := (by obtain ⟨x, y, e, _⟩ := own_slice hh.out.1; exact ⟨_, _, _, e⟩)
       have h1 := hh.out.1
       have h2 := hh.out.2.1
       have h3 := hh.out.2.2
       have hbs : Below w0.heap.size w0 (w1.alloc (.cells #[.slice PA pn pc] 119)) := h2.alloc h3 _
       have hsh : Sh (fun k => k < w.heap.size) w1.heap.size xs (w1.alloc (.cells #[.slice PA pn pc] 119)) := (by
         refine ⟨⟨_, Blk.new _ _ _, ?_, fun e => by have := (h1.lt _ e).2; omega, fun k hk e => by have := (h1.lt _ e).1; have := HS0.out; omega⟩⟩
         have h := own_baseO h1 (Nat.zero_le _)
         rw [HON.out]
         simpa using h.alloc _)
       obtain ⟨w2, ew2⟩ : ∃ w2, w1.alloc (.cells #[.slice PA pn pc] 119) = w2 := ⟨_, rfl⟩
       rw [ew2] at hbs hsh
       have HX2 := Lib.hid (HX0.out.below hbs (by have := HS0.out; omega))
       have HB4 := Lib.hid (show Below w.heap.size w w2 from HB0.out.trans (hbs.mono (by have := HS0.out; omega)))
       have HSH := Lib.hid hsh
       have HSF := Lib.hid (show Safe (fun k => k < w.heap.size) w1.heap.size w2 from fun k hk => ⟨Nat.lt_of_lt_of_le hk HB4.out.size, by have := HS0.out; omega⟩)
       clear ew0 hmk h1 h2 h3 hbs hsh)
    | (refine wpl_load_blk rfl 36 (.tmp 4) rfl w.heap.size 36 _ _ rfl HX2.out Tryz.underlying36 rfl Tryz.sizeF ?_)
    | (go_at_call 52; refine (sh_conf (fun k => k < w.heap.size) w1.heap.size xs A c B d x w2 HSH HSF (Lib.hid (hK.out.later HB4.out)) (Lib.hid (fun h0 ad e => by obtain ⟨ad1, e1, h1, -⟩ := hK.out.2 h0; rw [e] at e1; injection e1 with e1; subst e1; exact h1)) (Lib.hid (hJ.out.later HB4.out)) (Lib.hid (fun h0 ad e => by obtain ⟨ad1, e1, h1, -⟩ := hJ.out.2 h0; rw [e] at e1; injection e1 with e1; subst e1; exact h1)) HO.out (by have := HON.out; omega)).mono ?_; rintro e w3 ⟨rfl, h1, h2⟩
       rw [HYS.out] at h1
       have HK3 := Lib.hid h2
       obtain ⟨pv, pB, pO, -, -⟩ := h1.out
       obtain ⟨A3, c3, rfl, -, -⟩ := own_slice pO
       have z0 := pB.cell 0
       have HR := Lib.hid (Reads.of_own pO)
       clear h1 h2 pB pO ew2))
  go_ret
  refine ⟨_, _, rfl, HR.out, ?_⟩
  exact HB4.out.trans (HK3.out.toBelow HB4.out.size (fun k hk => hk))
set_option maxRecDepth 100000 in
set_option maxHeartbeats 4000000 in
theorem put_conf (O : Option Addr) (on oc : Nat) (xs : List Nat) (A : Option Addr) (c : Nat) (B : Option Addr) (d : Nat) (x : List Int × List Int) (w : World) (hO : Hid (Reads w w.heap.size 1 O on (xs.map bv))) (hK : Hid (Reads w w.heap.size 1 A x.1.length (x.1.map iv))) (hJ : Hid (Reads w w.heap.size 1 B x.2.length (x.2.map iv))) (HO : IntsOk x.1 ∧ IntsOk x.2) (hl : on + 20971590 ≤ 70000000000000) :
    Calls Tryz.prog 33 #[.slice O on oc, .agg #[.slice A x.1.length c, .slice B x.2.length d]] w (RetO (xs ++ pConf x) w) := by
  obtain ⟨w0, ew0⟩ : ∃ w0, w.alloc (.cells #[.slice A x.1.length c, .slice B x.2.length d] 36) = w0 := ⟨_, rfl⟩
  have hb : Below w.heap.size w (w.alloc (.cells #[.slice A x.1.length c, .slice B x.2.length d] 36)) := (Below.refl _ _).alloc (Nat.le_refl _) _
  have hx : Blk (w.alloc (.cells #[.slice A x.1.length c, .slice B x.2.length d] 36)) w.heap.size 36 #[.slice A x.1.length c, .slice B x.2.length d] := Blk.new w _ _
  rw [ew0] at hb hx
  have HX0 := Lib.hid hx
  have HB0 := Lib.hid hb
  obtain ⟨ys, hys⟩ : ∃ ys, xs ++ pConf x = ys := ⟨_, rfl⟩
  rw [hys]
  have HC := Lib.hid (wri_conf O on oc xs A c B d x w0 (Lib.hid (hO.out.later hb)) (Lib.hid (hK.out.later hb)) (Lib.hid (hJ.out.later hb)) HO hl)
  rw [hys] at HC
  clear hx hb hys
  go_enter Tryz.func33, Tryz.ntmps33
  go_wp2_with (first
    | (refine wpl_load_blk rfl 36 (.tmp 3) rfl w.heap.size 36 _ _ rfl HX0.out Tryz.underlying36 rfl Tryz.sizeF ?_)
    | (go_at_call 83; refine HC.out.mono ?_; rintro e w1 ⟨A1, c1, rfl, r1, hb1⟩; have HR := Lib.hid (And.intro r1 hb1); clear r1 hb1))
  go_ret
  exact ⟨_, _, rfl, HR.out.1, HB0.out.trans (HR.out.2.mono HB0.out.size)⟩
set_option maxRecDepth 100000 in
set_option maxHeartbeats 4000000 in
theorem wri_cmd (O : Option Addr) (on oc : Nat) (xs : List Nat) (A : Option Addr) (c : Nat) (x : CmdT) (w : World) (hO : Hid (Reads w w.heap.size 1 O on (xs.map bv))) (hK : Hid (Reads w w.heap.size 2 A x.mem.length (mcells x.mem))) (HO : CmdOk x) (hl : on + 22020400 ≤ 70000000000000) :
    Calls Tryz.prog 36 #[.slice O on oc, .agg #[.int .i64 x.kind, .int .u64 (x.client : Int), .int .u64 (x.seq : Int), .string (strOf x.key), .int .i64 x.size, .int .u32 (x.sum : Int), .int .u64 (x.version : Int), .int .u64 (x.epoch : Int), .int .i64 x.group, .int .i64 x.node, .bool x.up, .int .u64 (x.id.ver : Int), .int .i64 x.id.idx, .int .u64 (x.id.ep : Int), .int .u64 (x.mep : Int), .slice A x.mem.length c], .func (.func 37) #[] #[]] w (RetO (xs ++ pCmd x) w) := by
  have hon : xs.length = on := by simpa using hO.out.1
  have HON := Lib.hid hon
  have hmk : ∀ W : World, (Instr.makeSlice 22 (.int .i64 0) (.int .i64 ((on : Int) + 64))).run Tryz.prog W = .ok (.slice (some ⟨W.heap.size, 0, none⟩) 0 (on + 64)) (W.alloc (.cells (madeCells #[.int .u8 0] (on + 64)) 5)) := fun W => by
    have := make0 (on + 64) (by omega) W
    rw [show ((on + 64 : Nat) : Int) = (on : Int) + 64 from by omega] at this
    exact this
  have HO := Lib.hid HO
  obtain ⟨ys, hys⟩ : ∃ ys, xs ++ pCmd x = ys := ⟨_, rfl⟩
  have HYS := Lib.hid hys
  rw [hys]
  clear hys
  obtain ⟨w0, ew0⟩ : ∃ w0, w.alloc (.cells #[.int .i64 x.kind, .int .u64 (x.client : Int), .int .u64 (x.seq : Int), .string (strOf x.key), .int .i64 x.size, .int .u32 (x.sum : Int), .int .u64 (x.version : Int), .int .u64 (x.epoch : Int), .int .i64 x.group, .int .i64 x.node, .bool x.up, .int .u64 (x.id.ver : Int), .int .i64 x.id.idx, .int .u64 (x.id.ep : Int), .int .u64 (x.mep : Int), .slice A x.mem.length c] 33) = w0 := ⟨_, rfl⟩
  have hb : Below w.heap.size w (w.alloc (.cells #[.int .i64 x.kind, .int .u64 (x.client : Int), .int .u64 (x.seq : Int), .string (strOf x.key), .int .i64 x.size, .int .u32 (x.sum : Int), .int .u64 (x.version : Int), .int .u64 (x.epoch : Int), .int .i64 x.group, .int .i64 x.node, .bool x.up, .int .u64 (x.id.ver : Int), .int .i64 x.id.idx, .int .u64 (x.id.ep : Int), .int .u64 (x.mep : Int), .slice A x.mem.length c] 33)) := (Below.refl _ _).alloc (Nat.le_refl _) _
  have hx : Blk (w.alloc (.cells #[.int .i64 x.kind, .int .u64 (x.client : Int), .int .u64 (x.seq : Int), .string (strOf x.key), .int .i64 x.size, .int .u32 (x.sum : Int), .int .u64 (x.version : Int), .int .u64 (x.epoch : Int), .int .i64 x.group, .int .i64 x.node, .bool x.up, .int .u64 (x.id.ver : Int), .int .i64 x.id.idx, .int .u64 (x.id.ep : Int), .int .u64 (x.mep : Int), .slice A x.mem.length c] 33)) w.heap.size 33 #[.int .i64 x.kind, .int .u64 (x.client : Int), .int .u64 (x.seq : Int), .string (strOf x.key), .int .i64 x.size, .int .u32 (x.sum : Int), .int .u64 (x.version : Int), .int .u64 (x.epoch : Int), .int .i64 x.group, .int .i64 x.node, .bool x.up, .int .u64 (x.id.ver : Int), .int .i64 x.id.idx, .int .u64 (x.id.ep : Int), .int .u64 (x.mep : Int), .slice A x.mem.length c] := Blk.new w _ _
  rw [ew0] at hb hx
  have hsz : w0.heap.size = w.heap.size + 1 := by rw [← ew0]; simp
  have HB0 := Lib.hid hb
  have HX0 := Lib.hid hx
  have HS0 := Lib.hid hsz
  clear hb hx hsz hon
  go_enter Tryz.func36, Tryz.ntmps36
  go_wp2_with (first
    | (at_builtin
       refine wpl_append rfl (.tmp 11) (.tmp 12) _ rfl w0 w0.heap.size 5 _ 1 1 Tryz.underlying22 Tryz.infoU8 rfl (by decide) (.slice (some ⟨w0.heap.size, 0, none⟩) 0 (on + 64)) 0 [] rfl ?own (w0.heap.size + 1) O on oc (xs.map bv) rfl ?rd (bv_one xs) (by omega) (by decide) ?bel ?base ?_
       case own => exact World.ownsRow_made w0 _ _ (Nat.le_refl _) (by unfold maxLen; omega) (by rw [size_madeCells, Nat.mul_one])
       case rd => exact ((hO.out.later HB0.out).alloc (Nat.le_refl _) _).more (by simp)
       case bel => exact (Below.refl _ _).alloc (Nat.le_refl _) _
       case base => simp
       intro v1 w1 hh
       obtain ⟨PA, pn, pc, rfl⟩ : ∃ PA pn pc, v1 = .slice PA pn pc := (by obtain ⟨x, y, e, _⟩ := own_slice hh.out.1; exact ⟨_, _, _, e⟩)
       have h1 := hh.out.1
       have h2 := hh.out.2.1
       have h3 := hh.out.2.2
       have hbs : Below w0.heap.size w0 (w1.alloc (.cells #[.slice PA pn pc] 119)) := h2.alloc h3 _
       have hsh : Sh (fun k => k < w.heap.size) w1.heap.size xs (w1.alloc (.cells #[.slice PA pn pc] 119)) := (by
         refine ⟨⟨_, Blk.new _ _ _, ?_, fun e => by have := (h1.lt _ e).2; omega, fun k hk e => by have := (h1.lt _ e).1; have := HS0.out; omega⟩⟩
         have h := own_baseO h1 (Nat.zero_le _)
         rw [HON.out]
         simpa using h.alloc _)
       obtain ⟨w2, ew2⟩ : ∃ w2, w1.alloc (.cells #[.slice PA pn pc] 119) = w2 := ⟨_, rfl⟩
       rw [ew2] at hbs hsh
       have HX2 := Lib.hid (HX0.out.below hbs (by have := HS0.out; omega))
       have HB4 := Lib.hid (show Below w.heap.size w w2 from HB0.out.trans (hbs.mono (by have := HS0.out; omega)))
       have HSH := Lib.hid hsh
       have HSF := Lib.hid (show Safe (fun k => k < w.heap.size) w1.heap.size w2 from fun k hk => ⟨Nat.lt_of_lt_of_le hk HB4.out.size, by have := HS0.out; omega⟩)
       clear ew0 hmk h1 h2 h3 hbs hsh)
    | (refine wpl_load_blk rfl 33 (.tmp 4) rfl w.heap.size 33 _ _ rfl HX2.out Tryz.underlying33 rfl Tryz.sizeC ?_)
    | (go_at_call 37; refine (sh_cmd (fun k => k < w.heap.size) w1.heap.size xs A c x w2 HSH HSF (Lib.hid (hK.out.later HB4.out)) (Lib.hid (fun h0 ad e => by obtain ⟨ad1, e1, h1, -⟩ := hK.out.2 h0; rw [e] at e1; injection e1 with e1; subst e1; exact h1)) HO.out (by have := HON.out; omega)).mono ?_; rintro e w3 ⟨rfl, h1, h2⟩
       rw [HYS.out] at h1
       have HK3 := Lib.hid h2
       obtain ⟨pv, pB, pO, -, -⟩ := h1.out
       obtain ⟨A3, c3, rfl, -, -⟩ := own_slice pO
       have z0 := pB.cell 0
       have HR := Lib.hid (Reads.of_own pO)
       clear h1 h2 pB pO ew2))
  go_ret
  refine ⟨_, _, rfl, HR.out, ?_⟩
  exact HB4.out.trans (HK3.out.toBelow HB4.out.size (fun k hk => hk))
set_option maxRecDepth 100000 in
set_option maxHeartbeats 4000000 in
theorem put_cmd (O : Option Addr) (on oc : Nat) (xs : List Nat) (A : Option Addr) (c : Nat) (x : CmdT) (w : World) (hO : Hid (Reads w w.heap.size 1 O on (xs.map bv))) (hK : Hid (Reads w w.heap.size 2 A x.mem.length (mcells x.mem))) (HO : CmdOk x) (hl : on + 22020400 ≤ 70000000000000) :
    Calls Tryz.prog 15 #[.slice O on oc, .agg #[.int .i64 x.kind, .int .u64 (x.client : Int), .int .u64 (x.seq : Int), .string (strOf x.key), .int .i64 x.size, .int .u32 (x.sum : Int), .int .u64 (x.version : Int), .int .u64 (x.epoch : Int), .int .i64 x.group, .int .i64 x.node, .bool x.up, .int .u64 (x.id.ver : Int), .int .i64 x.id.idx, .int .u64 (x.id.ep : Int), .int .u64 (x.mep : Int), .slice A x.mem.length c]] w (RetO (xs ++ pCmd x) w) := by
  obtain ⟨w0, ew0⟩ : ∃ w0, w.alloc (.cells #[.int .i64 x.kind, .int .u64 (x.client : Int), .int .u64 (x.seq : Int), .string (strOf x.key), .int .i64 x.size, .int .u32 (x.sum : Int), .int .u64 (x.version : Int), .int .u64 (x.epoch : Int), .int .i64 x.group, .int .i64 x.node, .bool x.up, .int .u64 (x.id.ver : Int), .int .i64 x.id.idx, .int .u64 (x.id.ep : Int), .int .u64 (x.mep : Int), .slice A x.mem.length c] 33) = w0 := ⟨_, rfl⟩
  have hb : Below w.heap.size w (w.alloc (.cells #[.int .i64 x.kind, .int .u64 (x.client : Int), .int .u64 (x.seq : Int), .string (strOf x.key), .int .i64 x.size, .int .u32 (x.sum : Int), .int .u64 (x.version : Int), .int .u64 (x.epoch : Int), .int .i64 x.group, .int .i64 x.node, .bool x.up, .int .u64 (x.id.ver : Int), .int .i64 x.id.idx, .int .u64 (x.id.ep : Int), .int .u64 (x.mep : Int), .slice A x.mem.length c] 33)) := (Below.refl _ _).alloc (Nat.le_refl _) _
  have hx : Blk (w.alloc (.cells #[.int .i64 x.kind, .int .u64 (x.client : Int), .int .u64 (x.seq : Int), .string (strOf x.key), .int .i64 x.size, .int .u32 (x.sum : Int), .int .u64 (x.version : Int), .int .u64 (x.epoch : Int), .int .i64 x.group, .int .i64 x.node, .bool x.up, .int .u64 (x.id.ver : Int), .int .i64 x.id.idx, .int .u64 (x.id.ep : Int), .int .u64 (x.mep : Int), .slice A x.mem.length c] 33)) w.heap.size 33 #[.int .i64 x.kind, .int .u64 (x.client : Int), .int .u64 (x.seq : Int), .string (strOf x.key), .int .i64 x.size, .int .u32 (x.sum : Int), .int .u64 (x.version : Int), .int .u64 (x.epoch : Int), .int .i64 x.group, .int .i64 x.node, .bool x.up, .int .u64 (x.id.ver : Int), .int .i64 x.id.idx, .int .u64 (x.id.ep : Int), .int .u64 (x.mep : Int), .slice A x.mem.length c] := Blk.new w _ _
  rw [ew0] at hb hx
  have HX0 := Lib.hid hx
  have HB0 := Lib.hid hb
  obtain ⟨ys, hys⟩ : ∃ ys, xs ++ pCmd x = ys := ⟨_, rfl⟩
  rw [hys]
  have HC := Lib.hid (wri_cmd O on oc xs A c x w0 (Lib.hid (hO.out.later hb)) (Lib.hid (hK.out.later hb)) HO hl)
  rw [hys] at HC
  clear hx hb hys
  go_enter Tryz.func15, Tryz.ntmps15
  go_wp2_with (first
    | (refine wpl_load_blk rfl 33 (.tmp 3) rfl w.heap.size 33 _ _ rfl HX0.out Tryz.underlying33 rfl Tryz.sizeC ?_)
    | (go_at_call 36; refine HC.out.mono ?_; rintro e w1 ⟨A1, c1, rfl, r1, hb1⟩; have HR := Lib.hid (And.intro r1 hb1); clear r1 hb1))
  go_ret
  exact ⟨_, _, rfl, HR.out.1, HB0.out.trans (HR.out.2.mono HB0.out.size)⟩
set_option maxRecDepth 100000 in
set_option maxHeartbeats 4000000 in
theorem wri_entry (O : Option Addr) (on oc : Nat) (xs : List Nat) (A : Option Addr) (c : Nat) (B : Option Addr) (d : Nat) (E : Option Addr) (f : Nat) (x : EntT) (w : World) (hO : Hid (Reads w w.heap.size 1 O on (xs.map bv))) (hK : Hid (Reads w w.heap.size 2 A x.cmd.mem.length (mcells x.cmd.mem))) (hJ : Hid (Reads w w.heap.size 1 B x.voters.length (x.voters.map iv))) (hI : Hid (Reads w w.heap.size 1 E x.learners.length (x.learners.map iv))) (HO : EntOk x) (hl : on + 42992040 ≤ 70000000000000) :
    Calls Tryz.prog 25 #[.slice O on oc, .agg #[.int .u64 (x.index : Int), .int .u64 (x.term : Int), .int .i64 x.kind, .int .i64 x.cmd.kind, .int .u64 (x.cmd.client : Int), .int .u64 (x.cmd.seq : Int), .string (strOf x.cmd.key), .int .i64 x.cmd.size, .int .u32 (x.cmd.sum : Int), .int .u64 (x.cmd.version : Int), .int .u64 (x.cmd.epoch : Int), .int .i64 x.cmd.group, .int .i64 x.cmd.node, .bool x.cmd.up, .int .u64 (x.cmd.id.ver : Int), .int .i64 x.cmd.id.idx, .int .u64 (x.cmd.id.ep : Int), .int .u64 (x.cmd.mep : Int), .slice A x.cmd.mem.length c, .slice B x.voters.length d, .slice E x.learners.length f], .func (.func 26) #[] #[]] w (RetO (xs ++ pEnt x) w) := by
  have hon : xs.length = on := by simpa using hO.out.1
  have HON := Lib.hid hon
  have hmk : ∀ W : World, (Instr.makeSlice 22 (.int .i64 0) (.int .i64 ((on : Int) + 64))).run Tryz.prog W = .ok (.slice (some ⟨W.heap.size, 0, none⟩) 0 (on + 64)) (W.alloc (.cells (madeCells #[.int .u8 0] (on + 64)) 5)) := fun W => by
    have := make0 (on + 64) (by omega) W
    rw [show ((on + 64 : Nat) : Int) = (on : Int) + 64 from by omega] at this
    exact this
  have HO := Lib.hid HO
  obtain ⟨ys, hys⟩ : ∃ ys, xs ++ pEnt x = ys := ⟨_, rfl⟩
  have HYS := Lib.hid hys
  rw [hys]
  clear hys
  obtain ⟨w0, ew0⟩ : ∃ w0, w.alloc (.cells #[.int .u64 (x.index : Int), .int .u64 (x.term : Int), .int .i64 x.kind, .int .i64 x.cmd.kind, .int .u64 (x.cmd.client : Int), .int .u64 (x.cmd.seq : Int), .string (strOf x.cmd.key), .int .i64 x.cmd.size, .int .u32 (x.cmd.sum : Int), .int .u64 (x.cmd.version : Int), .int .u64 (x.cmd.epoch : Int), .int .i64 x.cmd.group, .int .i64 x.cmd.node, .bool x.cmd.up, .int .u64 (x.cmd.id.ver : Int), .int .i64 x.cmd.id.idx, .int .u64 (x.cmd.id.ep : Int), .int .u64 (x.cmd.mep : Int), .slice A x.cmd.mem.length c, .slice B x.voters.length d, .slice E x.learners.length f] 38) = w0 := ⟨_, rfl⟩
  have hb : Below w.heap.size w (w.alloc (.cells #[.int .u64 (x.index : Int), .int .u64 (x.term : Int), .int .i64 x.kind, .int .i64 x.cmd.kind, .int .u64 (x.cmd.client : Int), .int .u64 (x.cmd.seq : Int), .string (strOf x.cmd.key), .int .i64 x.cmd.size, .int .u32 (x.cmd.sum : Int), .int .u64 (x.cmd.version : Int), .int .u64 (x.cmd.epoch : Int), .int .i64 x.cmd.group, .int .i64 x.cmd.node, .bool x.cmd.up, .int .u64 (x.cmd.id.ver : Int), .int .i64 x.cmd.id.idx, .int .u64 (x.cmd.id.ep : Int), .int .u64 (x.cmd.mep : Int), .slice A x.cmd.mem.length c, .slice B x.voters.length d, .slice E x.learners.length f] 38)) := (Below.refl _ _).alloc (Nat.le_refl _) _
  have hx : Blk (w.alloc (.cells #[.int .u64 (x.index : Int), .int .u64 (x.term : Int), .int .i64 x.kind, .int .i64 x.cmd.kind, .int .u64 (x.cmd.client : Int), .int .u64 (x.cmd.seq : Int), .string (strOf x.cmd.key), .int .i64 x.cmd.size, .int .u32 (x.cmd.sum : Int), .int .u64 (x.cmd.version : Int), .int .u64 (x.cmd.epoch : Int), .int .i64 x.cmd.group, .int .i64 x.cmd.node, .bool x.cmd.up, .int .u64 (x.cmd.id.ver : Int), .int .i64 x.cmd.id.idx, .int .u64 (x.cmd.id.ep : Int), .int .u64 (x.cmd.mep : Int), .slice A x.cmd.mem.length c, .slice B x.voters.length d, .slice E x.learners.length f] 38)) w.heap.size 38 #[.int .u64 (x.index : Int), .int .u64 (x.term : Int), .int .i64 x.kind, .int .i64 x.cmd.kind, .int .u64 (x.cmd.client : Int), .int .u64 (x.cmd.seq : Int), .string (strOf x.cmd.key), .int .i64 x.cmd.size, .int .u32 (x.cmd.sum : Int), .int .u64 (x.cmd.version : Int), .int .u64 (x.cmd.epoch : Int), .int .i64 x.cmd.group, .int .i64 x.cmd.node, .bool x.cmd.up, .int .u64 (x.cmd.id.ver : Int), .int .i64 x.cmd.id.idx, .int .u64 (x.cmd.id.ep : Int), .int .u64 (x.cmd.mep : Int), .slice A x.cmd.mem.length c, .slice B x.voters.length d, .slice E x.learners.length f] := Blk.new w _ _
  rw [ew0] at hb hx
  have hsz : w0.heap.size = w.heap.size + 1 := by rw [← ew0]; simp
  have HB0 := Lib.hid hb
  have HX0 := Lib.hid hx
  have HS0 := Lib.hid hsz
  clear hb hx hsz hon
  go_enter Tryz.func25, Tryz.ntmps25
  go_wp2_with (first
    | (at_builtin
       refine wpl_append rfl (.tmp 11) (.tmp 12) _ rfl w0 w0.heap.size 5 _ 1 1 Tryz.underlying22 Tryz.infoU8 rfl (by decide) (.slice (some ⟨w0.heap.size, 0, none⟩) 0 (on + 64)) 0 [] rfl ?own (w0.heap.size + 1) O on oc (xs.map bv) rfl ?rd (bv_one xs) (by omega) (by decide) ?bel ?base ?_
       case own => exact World.ownsRow_made w0 _ _ (Nat.le_refl _) (by unfold maxLen; omega) (by rw [size_madeCells, Nat.mul_one])
       case rd => exact ((hO.out.later HB0.out).alloc (Nat.le_refl _) _).more (by simp)
       case bel => exact (Below.refl _ _).alloc (Nat.le_refl _) _
       case base => simp
       intro v1 w1 hh
       obtain ⟨PA, pn, pc, rfl⟩ : ∃ PA pn pc, v1 = .slice PA pn pc := (by obtain ⟨x, y, e, _⟩ := own_slice hh.out.1; exact ⟨_, _, _, e⟩)
       have h1 := hh.out.1
       have h2 := hh.out.2.1
       have h3 := hh.out.2.2
       have hbs : Below w0.heap.size w0 (w1.alloc (.cells #[.slice PA pn pc] 119)) := h2.alloc h3 _
       have hsh : Sh (fun k => k < w.heap.size) w1.heap.size xs (w1.alloc (.cells #[.slice PA pn pc] 119)) := (by
         refine ⟨⟨_, Blk.new _ _ _, ?_, fun e => by have := (h1.lt _ e).2; omega, fun k hk e => by have := (h1.lt _ e).1; have := HS0.out; omega⟩⟩
         have h := own_baseO h1 (Nat.zero_le _)
         rw [HON.out]
         simpa using h.alloc _)
       obtain ⟨w2, ew2⟩ : ∃ w2, w1.alloc (.cells #[.slice PA pn pc] 119) = w2 := ⟨_, rfl⟩
       rw [ew2] at hbs hsh
       have HX2 := Lib.hid (HX0.out.below hbs (by have := HS0.out; omega))
       have HB4 := Lib.hid (show Below w.heap.size w w2 from HB0.out.trans (hbs.mono (by have := HS0.out; omega)))
       have HSH := Lib.hid hsh
       have HSF := Lib.hid (show Safe (fun k => k < w.heap.size) w1.heap.size w2 from fun k hk => ⟨Nat.lt_of_lt_of_le hk HB4.out.size, by have := HS0.out; omega⟩)
       clear ew0 hmk h1 h2 h3 hbs hsh)
    | (refine wpl_load_blk rfl 38 (.tmp 4) rfl w.heap.size 38 _ _ rfl HX2.out Tryz.underlying38 rfl Tryz.sizeE ?_)
    | (go_at_call 26; refine (sh_entry (fun k => k < w.heap.size) w1.heap.size xs A c B d E f x w2 HSH HSF (Lib.hid (hK.out.later HB4.out)) (Lib.hid (fun h0 ad e => by obtain ⟨ad1, e1, h1, -⟩ := hK.out.2 h0; rw [e] at e1; injection e1 with e1; subst e1; exact h1)) (Lib.hid (hJ.out.later HB4.out)) (Lib.hid (fun h0 ad e => by obtain ⟨ad1, e1, h1, -⟩ := hJ.out.2 h0; rw [e] at e1; injection e1 with e1; subst e1; exact h1)) (Lib.hid (hI.out.later HB4.out)) (Lib.hid (fun h0 ad e => by obtain ⟨ad1, e1, h1, -⟩ := hI.out.2 h0; rw [e] at e1; injection e1 with e1; subst e1; exact h1)) HO.out (by have := HON.out; omega)).mono ?_; rintro e w3 ⟨rfl, h1, h2⟩
       rw [HYS.out] at h1
       have HK3 := Lib.hid h2
       obtain ⟨pv, pB, pO, -, -⟩ := h1.out
       obtain ⟨A3, c3, rfl, -, -⟩ := own_slice pO
       have z0 := pB.cell 0
       have HR := Lib.hid (Reads.of_own pO)
       clear h1 h2 pB pO ew2))
  go_ret
  refine ⟨_, _, rfl, HR.out, ?_⟩
  exact HB4.out.trans (HK3.out.toBelow HB4.out.size (fun k hk => hk))
set_option maxRecDepth 100000 in
set_option maxHeartbeats 4000000 in
theorem put_entry (O : Option Addr) (on oc : Nat) (xs : List Nat) (A : Option Addr) (c : Nat) (B : Option Addr) (d : Nat) (E : Option Addr) (f : Nat) (x : EntT) (w : World) (hO : Hid (Reads w w.heap.size 1 O on (xs.map bv))) (hK : Hid (Reads w w.heap.size 2 A x.cmd.mem.length (mcells x.cmd.mem))) (hJ : Hid (Reads w w.heap.size 1 B x.voters.length (x.voters.map iv))) (hI : Hid (Reads w w.heap.size 1 E x.learners.length (x.learners.map iv))) (HO : EntOk x) (hl : on + 42992040 ≤ 70000000000000) :
    Calls Tryz.prog 9 #[.slice O on oc, .agg #[.int .u64 (x.index : Int), .int .u64 (x.term : Int), .int .i64 x.kind, .int .i64 x.cmd.kind, .int .u64 (x.cmd.client : Int), .int .u64 (x.cmd.seq : Int), .string (strOf x.cmd.key), .int .i64 x.cmd.size, .int .u32 (x.cmd.sum : Int), .int .u64 (x.cmd.version : Int), .int .u64 (x.cmd.epoch : Int), .int .i64 x.cmd.group, .int .i64 x.cmd.node, .bool x.cmd.up, .int .u64 (x.cmd.id.ver : Int), .int .i64 x.cmd.id.idx, .int .u64 (x.cmd.id.ep : Int), .int .u64 (x.cmd.mep : Int), .slice A x.cmd.mem.length c, .slice B x.voters.length d, .slice E x.learners.length f]] w (RetO (xs ++ pEnt x) w) := by
  obtain ⟨w0, ew0⟩ : ∃ w0, w.alloc (.cells #[.int .u64 (x.index : Int), .int .u64 (x.term : Int), .int .i64 x.kind, .int .i64 x.cmd.kind, .int .u64 (x.cmd.client : Int), .int .u64 (x.cmd.seq : Int), .string (strOf x.cmd.key), .int .i64 x.cmd.size, .int .u32 (x.cmd.sum : Int), .int .u64 (x.cmd.version : Int), .int .u64 (x.cmd.epoch : Int), .int .i64 x.cmd.group, .int .i64 x.cmd.node, .bool x.cmd.up, .int .u64 (x.cmd.id.ver : Int), .int .i64 x.cmd.id.idx, .int .u64 (x.cmd.id.ep : Int), .int .u64 (x.cmd.mep : Int), .slice A x.cmd.mem.length c, .slice B x.voters.length d, .slice E x.learners.length f] 38) = w0 := ⟨_, rfl⟩
  have hb : Below w.heap.size w (w.alloc (.cells #[.int .u64 (x.index : Int), .int .u64 (x.term : Int), .int .i64 x.kind, .int .i64 x.cmd.kind, .int .u64 (x.cmd.client : Int), .int .u64 (x.cmd.seq : Int), .string (strOf x.cmd.key), .int .i64 x.cmd.size, .int .u32 (x.cmd.sum : Int), .int .u64 (x.cmd.version : Int), .int .u64 (x.cmd.epoch : Int), .int .i64 x.cmd.group, .int .i64 x.cmd.node, .bool x.cmd.up, .int .u64 (x.cmd.id.ver : Int), .int .i64 x.cmd.id.idx, .int .u64 (x.cmd.id.ep : Int), .int .u64 (x.cmd.mep : Int), .slice A x.cmd.mem.length c, .slice B x.voters.length d, .slice E x.learners.length f] 38)) := (Below.refl _ _).alloc (Nat.le_refl _) _
  have hx : Blk (w.alloc (.cells #[.int .u64 (x.index : Int), .int .u64 (x.term : Int), .int .i64 x.kind, .int .i64 x.cmd.kind, .int .u64 (x.cmd.client : Int), .int .u64 (x.cmd.seq : Int), .string (strOf x.cmd.key), .int .i64 x.cmd.size, .int .u32 (x.cmd.sum : Int), .int .u64 (x.cmd.version : Int), .int .u64 (x.cmd.epoch : Int), .int .i64 x.cmd.group, .int .i64 x.cmd.node, .bool x.cmd.up, .int .u64 (x.cmd.id.ver : Int), .int .i64 x.cmd.id.idx, .int .u64 (x.cmd.id.ep : Int), .int .u64 (x.cmd.mep : Int), .slice A x.cmd.mem.length c, .slice B x.voters.length d, .slice E x.learners.length f] 38)) w.heap.size 38 #[.int .u64 (x.index : Int), .int .u64 (x.term : Int), .int .i64 x.kind, .int .i64 x.cmd.kind, .int .u64 (x.cmd.client : Int), .int .u64 (x.cmd.seq : Int), .string (strOf x.cmd.key), .int .i64 x.cmd.size, .int .u32 (x.cmd.sum : Int), .int .u64 (x.cmd.version : Int), .int .u64 (x.cmd.epoch : Int), .int .i64 x.cmd.group, .int .i64 x.cmd.node, .bool x.cmd.up, .int .u64 (x.cmd.id.ver : Int), .int .i64 x.cmd.id.idx, .int .u64 (x.cmd.id.ep : Int), .int .u64 (x.cmd.mep : Int), .slice A x.cmd.mem.length c, .slice B x.voters.length d, .slice E x.learners.length f] := Blk.new w _ _
  rw [ew0] at hb hx
  have HX0 := Lib.hid hx
  have HB0 := Lib.hid hb
  obtain ⟨ys, hys⟩ : ∃ ys, xs ++ pEnt x = ys := ⟨_, rfl⟩
  rw [hys]
  have HC := Lib.hid (wri_entry O on oc xs A c B d E f x w0 (Lib.hid (hO.out.later hb)) (Lib.hid (hK.out.later hb)) (Lib.hid (hJ.out.later hb)) (Lib.hid (hI.out.later hb)) HO hl)
  rw [hys] at HC
  clear hx hb hys
  go_enter Tryz.func9, Tryz.ntmps9
  go_wp2_with (first
    | (refine wpl_load_blk rfl 38 (.tmp 3) rfl w.heap.size 38 _ _ rfl HX0.out Tryz.underlying38 rfl Tryz.sizeE ?_)
    | (go_at_call 25; refine HC.out.mono ?_; rintro e w1 ⟨A1, c1, rfl, r1, hb1⟩; have HR := Lib.hid (And.intro r1 hb1); clear r1 hb1))
  go_ret
  exact ⟨_, _, rfl, HR.out.1, HB0.out.trans (HR.out.2.mono HB0.out.size)⟩
end Go.Proofs.YthgiafjiemiifaaGreat
end
