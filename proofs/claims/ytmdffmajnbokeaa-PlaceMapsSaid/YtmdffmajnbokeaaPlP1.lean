/-
  THE REFERENCE'S WRITER: a map.
-/
import Derived.Test.YtmdffmajnbokeaaPlI5
import Derived.Test.YtmdffmajnbokeaaPenW2
namespace Go.Proofs.Ytmdffmajnbokeaa
open Go.RowKit PlMath OctMath
set_option linter.unusedVariables false
/-- What is stored already is stored again: nothing turns. -/
theorem set_same_world {w : World} {g : Nat} {t : TypeId} {cs : Array Value} {i : Nat} {u : Value} (h : Blk w g t cs) (hi : cs[i]? = some u) : w.setCell ⟨g, i, none⟩ u = w := by
  rw [setCell_eq_setRow w g i cs t (0, 0) u h]
  have e : cs.setIfInBounds i u = cs := by
    apply Array.ext_getElem?
    intro j
    rw [Array.getElem?_setIfInBounds]
    split
    · rename_i hij; subst hij; rw [hi]; split
      · rfl
      · rename_i hl; rw [Array.getElem?_eq_none (by omega)] at hi; cases hi
    · rfl
  rw [e]
  exact setRow_self w g cs t (0, 0) h
theorem Pen.grown {H : Nat → Prop} {g : Nat} {xs : List Nat} {w w' : World} {row : Option Nat} (h : Pen H g xs w) (hg : w.grownBy w' row) (hr : ∀ k, row = some k → H k) (hS : ∀ k, H k → k ≠ g) : Pen H g xs w' := by
  obtain ⟨v, hB, hO, hne, hh⟩ := h.out
  refine ⟨v, hB.grown hg (fun e => hS g (hr g e.symm) rfl), hO.kept hg ?_, hne, hh⟩
  cases row with
  | none => cases hv : v.ownBlock <;> simp
  | some k => exact .inr (hh k (hr k rfl))
/-- A member's bytes; a map's. -/
def memB (p : Mem) : List Nat := putN (zz p.1) ++ putN (zz p.2)
def memsB (ms : List Mem) : List Nat := ms.flatMap memB
def mapB (e : Nat) (ms : List Mem) : List Nat := putN e ++ (putN ms.length ++ memsB ms)
theorem memsB_snoc (ms : List Mem) (p : Mem) : memsB (ms ++ [p]) = memsB ms ++ (putN (zz p.1) ++ putN (zz p.2)) := by unfold memsB; rw [List.flatMap_append]; simp [memB]
/-- The blocks that stay while a map's members are written. -/
def HV (H : Nat → Prop) (b : Nat) (v : Value) : Nat → Prop := fun k => Two H b k ∨ v.ownBlock = some k
structure MS (H : Nat → Prop) (g b : Nat) (e : Nat) (A : Option Addr) (n cap : Nat) (ms : List Mem) (w0 : World) (ys : List Nat) (k : Nat) (v : Value) (wr : World) : Prop where
  pen : Pen (HV H b v) g (ys ++ memsB (ms.take k)) wr
  safe : Safe (HV H b v) g wr
  m : Blk wr b 25 #[.int .u64 (e : Int), .slice A n cap]
  r : Blk wr (b + 1) 25 #[.int .u64 0, .slice none 0 0]
  own : wr.ownsRow (b + 2) 41 2 v k (mcells (ms.take k))
  keep : Keep H w0 wr
  nh : ∀ k, b ≤ k → ¬ H k
theorem Pen.cells {H : Nat → Prop} {g : Nat} {xs : List Nat} {w : World} (h : Pen H g xs w) : w.cell? ⟨g, 2, none⟩ = some (.bool true) ∧ w.cell? ⟨g, 3, none⟩ = some (.bool false) := by
  obtain ⟨v, hB, _⟩ := h.out
  exact ⟨hB.cell 2, hB.cell 3⟩
theorem Keep.own {H : Nat → Prop} {w w' : World} {base size n : Nat} {t : TypeId} {v : Value} {xs : List Value} (h : Keep H w w') (ho : w.ownsRow base t size v n xs) (hH : ∀ k, v.ownBlock = some k → H k) : w'.ownsRow base t size v n xs := by
  obtain ⟨hl, h0⟩ := ho
  refine ⟨hl, ?_⟩
  rcases h0 with h0 | ⟨g, cap, cur, rfl, h1, h2, h3⟩
  · exact .inl h0
  · exact .inr ⟨g, cap, cur, rfl, h1, (h.block g (hH g rfl) (Array.getElem?_eq_some_iff.1 h2).1).trans h2, h3⟩
def HX (H : Nat → Prop) (b : Nat) (v : Value) (x : Nat) : Nat → Prop := fun k => HV H b v k ∨ k = x
theorem MS.step {H : Nat → Prop} {g b e n cap k : Nat} {A : Option Addr} {ms : List Mem} {w0 wr w5 w7 w8 : World} {ys ys' : List Nat} {v v' : Value} {o : Obj} (h : MS H g b e A n cap ms w0 ys k v wr) (hb5 : Below wr.heap.size wr w5) (k57 : Keep (HX H b v wr.heap.size) w5 w7) (p7 : Pen (HX H b v wr.heap.size) g ys' w7)
    (hy : ys' = ys ++ memsB (ms.take (k + 1))) (own' : w8.ownsRow (b + 2) 41 2 v' (k + 1) (mcells (ms.take (k + 1)))) (hg : (w7.alloc o).grownBy w8 v.ownBlock) (hv : v'.ownBlock = v.ownBlock ∨ v'.ownBlock = some (w7.alloc o).heap.size) : MS H g b e A n cap ms w0 ys (k + 1) v' w8 := by
  have s1 := hb5.size
  have s2 := k57.size
  have s3 := hg.size
  have s4 : (w7.alloc o).heap.size = w7.heap.size + 1 := by simp
  have hgl := h.pen.lt
  have hob : ∀ j, v.ownBlock = some j → b + 2 ≤ j ∧ j < wr.heap.size := h.own.lt
  refine ⟨?_, fun j hj => ?_, ?_, ?_, own', ?_, h.nh⟩
  · rw [← hy]
    have q1 := (p7.alloc o).mono (H' := fun j => HX H b v wr.heap.size j ∨ j = (w7.alloc o).heap.size) (fun j hj => hj.imp id fun e => by omega)
    have q2 := q1.grown hg (fun j e => .inl (.inl (.inr e))) (fun j hj => by
      rcases hj with (hj | hj) | hj
      · exact (h.safe j hj).2
      · omega
      · omega)
    refine q2.mono fun j hj => .inl ?_
    rcases hj with hj | hj
    · exact .inl (.inl (.inl hj))
    · rcases hv with e | e
      · exact .inl (.inl (.inr (e.symm.trans hj)))
      · rw [e] at hj; injection hj with hj; exact .inr hj.symm
  · rcases hj with hj | hj
    · have := h.safe j (.inl hj); exact ⟨by omega, this.2⟩
    · have h1 := own'.lt j hj
      refine ⟨h1.2, ?_⟩
      rcases hv with e | e
      · exact (h.safe j (.inr (e.symm.trans hj))).2
      · rw [e] at hj; injection hj with hj; omega
  · exact ((k57.blk (h.m.below hb5 h.m.lt) (.inl (.inl (.inr (.inl rfl))))).alloc o).grown hg (fun e => by have := (hob b e.symm).1; omega)
  · exact ((k57.blk (h.r.below hb5 h.r.lt) (.inl (.inl (.inr (.inr rfl))))).alloc o).grown hg (fun e => by have := (hob (b + 1) e.symm).1; omega)
  · exact ((((h.keep.trans (Keep.below hb5)).trans (k57.mono fun j hj => .inl (.inl (.inl hj)))).alloc o).trans (Keep.grown hg fun j hj e => h.nh j (by have := (hob j e.symm).1; omega) hj))
theorem memB_len {p : Mem} (h1 : -9223372036854775808 ≤ p.1 ∧ p.1 ≤ 9223372036854775807) (h2 : -9223372036854775808 ≤ p.2 ∧ p.2 ≤ 9223372036854775807) : (memB p).length ≤ 20 := by
  have := putN_len10 (zz_lt h1.1 h1.2)
  have := putN_len10 (zz_lt h2.1 h2.2)
  unfold memB
  rw [List.length_append]; omega
theorem memsB_len : ∀ {ms : List Mem}, M64 ms → (memsB ms).length ≤ 20 * ms.length
  | [], _ => by simp [memsB]
  | p :: l, h => by
    have h1 := h p (by simp)
    have h2 := memB_len h1.1 h1.2
    have h3 := memsB_len (ms := l) (fun x hx => h x (by simp [hx]))
    unfold memsB at h3 ⊢
    rw [List.flatMap_cons, List.length_append, List.length_cons]; omega
theorem M64.take {ms : List Mem} (h : M64 ms) (k : Nat) : M64 (ms.take k) := fun x hx => h x (List.mem_of_mem_take hx)
theorem take_snoc_mem (ms : List Mem) (k : Nat) (h : k < ms.length) : ms.take (k + 1) = ms.take k ++ [ms.getD k (0, 0)] := by
  rw [List.take_succ_eq_append_getElem h, List.getD_eq_getElem?_getD, List.getElem?_eq_getElem h]; rfl
theorem Try.size_mem : (Try.prog.info? 41).map (·.size) = some 2 := by kernel_rfl
theorem Try.size_map : (Try.prog.info? 25).map (·.size) = some 2 := by kernel_rfl
set_option maxRecDepth 100000 in
set_option maxHeartbeats 8000000 in
theorem pen_map (H : Nat → Prop) (g : Nat) (xs : List Nat) (e : Nat) (A : Option Addr) (n cap : Nat) (ms : List Mem) (w : World) (hp : Hid (Pen H g xs w)) (hS : Hid (Safe H g w)) (he : e < 18446744073709551616) (h64 : Hid (M64 ms)) (hr : Hid (Reads w w.heap.size 2 A n (mcells ms))) (hH : Hid (0 < n → ∀ ad, A = some ad → H ad.block))
    (hl : Hid (ms.length = n)) (hn : n ≤ 1000000000) (hx : xs.length ≤ 10000000000000) :
    Calls Try.prog 45 #[.pointer (some ⟨g, 0, none⟩), mapV e A n cap] w fun en w' => (∃ v, en = .returned v) ∧ Pen H g (xs ++ mapB e ms) w' ∧ Keep H w w' := by
  have S0 := Lib.hid (Wr.start hp.out hS.out #[.int .u64 (e : Int), .slice A n cap] #[.int .u64 0, .slice none 0 0] 25)
  have z0 : ((w.alloc (.cells #[.int .u64 (e : Int), .slice A n cap] 25)).alloc (.cells #[.int .u64 0, .slice none 0 0] 25)).cell? ⟨w.heap.size, 0, none⟩ = some (.int .u64 e) := S0.out.blk.cell 0
  unfold mapV
  go_enter Try.func45, Try.ntmps45
  go_wp2_with fail
  refine (pen_u64 _ g _ e _ (Lib.hid S0.out.pen) (Lib.hid S0.out.safe) he (by omega)).mono ?_
  rintro en w1 hr1
  have s1 := S0.out.call hr1
  obtain ⟨rfl, -, -⟩ := hr1
  have z1 : w1.cell? ⟨w.heap.size, 1, none⟩ = some (.slice A n cap) := s1.blk.cell 1
  have z00 : w1.cell? ⟨w.heap.size, 0, none⟩ = some (.int .u64 e) := s1.blk.cell 0
  have f0 : w1.frozen? ⟨w.heap.size, 0, none⟩ = false := s1.blk.frozen 0
  have hs1 : w1.setCell ⟨w.heap.size, 0, none⟩ (.int .u64 e) = w1 := set_same_world s1.blk rfl
  have S1 := Lib.hid s1
  clear s1 z0
  go_wp2_with fail
  clear hs1 z1 f0 z00
  refine (pen_len _ g _ n _ (Lib.hid S1.out.pen) (Lib.hid S1.out.safe) (by omega) (by rw [List.length_append]; have := putN_len10 he; omega)).mono ?_
  rintro en w2 hr1
  have s2 := S1.out.call hr1
  obtain ⟨rfl, -, -⟩ := hr1
  have S2 := Lib.hid s2
  clear s2 S1 S0
  obtain ⟨b, hb⟩ : ∃ b, w.heap.size = b := ⟨_, rfl⟩
  rw [hb] at S2
  have HBW := Lib.hid hb
  obtain ⟨ys, hys⟩ : ∃ ys, xs ++ putN e ++ putN n = ys := ⟨_, rfl⟩
  rw [hys] at S2
  have HYL := Lib.hid (show ys.length ≤ xs.length + 20 from by rw [← hys, List.length_append, List.length_append]; have := putN_len10 he; have := putN_len10 (n := n) (by omega); omega)
  have HYS := Lib.hid hys
  clear hys
  have HM0 : Hid (MS H g b e A n cap ms w ys 0 (.slice none 0 0) w2) := Lib.hid ⟨by
      have := S2.out.pen
      rw [List.take_zero]
      show Pen _ g (ys ++ []) w2
      rw [List.append_nil]
      exact this.mono fun k hk => .inl (hk.elim id fun h => by cases h), fun k hk => S2.out.safe k (hk.elim id fun h => by cases h), S2.out.blk, S2.out.res, ⟨rfl, .inl ⟨rfl, rfl⟩⟩, S2.out.keep, fun k hk h => by have := (hS.out k h).1; omega⟩
  go_wp2
  clear hb
  go_loopw [6, 7, 8] (fun vl vi _ wr => ∃ k : Nat, k ≤ n ∧ vi = .int .i64 k ∧ Hid (MS H g b e A n cap ms w ys k vl wr)) (fun _ vi _ _ => n - (intOf vi).toNat)
  case atStart => exact ⟨0, by omega, rfl, HM0⟩
  case round =>
    obtain ⟨k, hk, rfl, HM⟩ := hrel
    obtain ⟨v, rfl⟩ : ∃ v : Value, v = u6 := ⟨_, rfl⟩
    clear HM0 S2
    have xm : wr.cell? ⟨b, 1, none⟩ = some (.slice A n cap) := HM.out.m.cell 1
    have pw : wr.cell? ⟨g, 2, none⟩ = some (.bool true) := HM.out.pen.cells.1
    have pb : wr.cell? ⟨g, 3, none⟩ = some (.bool false) := HM.out.pen.cells.2
    by_cases hlt : k < n
    · have d1 : decide (k < n) = true := decide_eq_true hlt
      obtain ⟨a1, rfl, hb1, hc1, hc2⟩ := (HM.out.keep.reads hr.out hH.out).mem hlt
      have HTS := Lib.hid (take_snoc_mem ms k (by have := hl.out; omega))
      have h6 := h64.out.get (k := k) (by have := hl.out; omega)
      obtain ⟨p, ex⟩ : ∃ p, ms.getD k (0, 0) = p := ⟨_, rfl⟩
      rw [ex] at hc1 hc2 HTS h6
      clear ex
      obtain ⟨mid, wt⟩ := p
      simp only at hc1 hc2 h6
      obtain ⟨⟨i1, i2⟩, i3, i4⟩ := h6
      obtain ⟨x, hxe⟩ : ∃ x, wr.heap.size = x := ⟨_, rfl⟩
      obtain ⟨w4, ew4⟩ : ∃ w4, wr.alloc (.cells #[.int .i64 0, .int .i64 0] 41) = w4 := ⟨_, rfl⟩
      have hb4 : Below wr.heap.size wr w4 := by rw [← ew4]; exact (Below.refl _ _).alloc (Nat.le_refl _) _
      have hX4 : Blk w4 x 41 #[.int .i64 0, .int .i64 0] := by rw [← ew4, ← hxe]; exact Blk.new wr _ _
      have y0 := hX4.cell 0
      have y1 := hX4.cell 1
      have y2 := hX4.frozen 0
      have y3 := hX4.frozen 1
      have hz0 : w4.setCell ⟨x, 0, none⟩ (.int .i64 0) = w4 := set_same_world hX4 rfl
      have hz1 : w4.setCell ⟨x, 1, none⟩ (.int .i64 0) = w4 := set_same_world hX4 rfl
      have xm := cell_later hb4 xm
      have pw := cell_later hb4 pw
      have hc3 := (hb4.cell (p := a1.add (k * 2)) (by rw [block_of_add]; exact hb1)).trans hc1
      have hc4 := (hb4.cell (p := { block := (a1.add (k * 2)).block, off := (a1.add (k * 2)).off + 1 }) (by show (a1.add (k * 2)).block < _; rw [block_of_add]; exact hb1)).trans hc2
      obtain ⟨w5, ew5⟩ : ∃ w5, (w4.setCell ⟨x, 0, none⟩ (.int .i64 mid)).setCell ⟨x, 1, none⟩ (.int .i64 wt) = w5 := ⟨_, rfl⟩
      have hb5 : Below wr.heap.size wr w5 := by rw [← ew5]; exact (hb4.setCell (p := ⟨x, 0, none⟩) (by show _ ≤ x; omega) _).setCell (p := ⟨x, 1, none⟩) (by show _ ≤ x; omega) _
      have hX5 : Blk w5 x 41 #[.int .i64 mid, .int .i64 wt] := by rw [← ew5]; exact (hX4.set_ 0 _).set_ 1 _
      clear hX4 hb4
      have HB5 := Lib.hid hb5
      have HX5 := Lib.hid hX5
      have HXE := Lib.hid hxe
      have P5 := Lib.hid ((HM.out.pen.mono (H' := HX H b v x) (fun j hj => hj.imp id fun e => by omega)).later hb5)
      have hs5 : Safe (HX H b v x) g w5 := fun j hj => by
        have q1 := hb5.size
        have q2 := HM.out.pen.lt
        rcases hj with hj | hj
        · have := HM.out.safe j hj; exact ⟨by omega, this.2⟩
        · exact ⟨by rw [hj]; exact hX5.lt, by omega⟩
      have HS5 := Lib.hid hs5
      have m0 := hX5.cell 0
      have m1 := hX5.cell 1
      have e0 := hX5.frozen 0
      have e1 := hX5.frozen 1
      have HTL := Lib.hid (show (memsB (ms.take k)).length ≤ 20 * k from by have := memsB_len (h64.out.take k); rw [List.length_take] at this; omega)
      have tk1 : True := trivial
      have tk2 : True := trivial
      obtain ⟨ii, q1, q2, q3, q4⟩ := info_parts Try.infoMem
      have HII := Lib.hid (And.intro q1 (And.intro q2 (And.intro q3 q4)))
      clear hb5 hX5 hs5 q1 q2 q3 q4
      go_wp2_with (first
        | (have _t := tk1; go_at_call 51; refine (pen_int (HX H b v x) g _ mid w5 P5 HS5 i1 i2 (by rw [List.length_append]; have := HYL.out; have := HTL.out; omega)).mono ?_; rintro en w6 ⟨rfl, p6, k6⟩
           have P6 := Lib.hid p6; have K6 := Lib.hid k6
           have hX6 := k6.blk HX5.out (.inr rfl)
           have HX6 := Lib.hid hX6
           have HS6 := Lib.hid (fun j hj => ⟨Nat.lt_of_lt_of_le (HS5.out j hj).1 k6.size, (HS5.out j hj).2⟩ : Safe (HX H b v x) g w6)
           clear m0 m1 e0 e1
           have m0 := hX6.cell 0
           have m1 := hX6.cell 1
           have e0 := hX6.frozen 0
           have hs6 : w6.setCell ⟨x, 0, none⟩ (.int .i64 mid) = w6 := set_same_world hX6 rfl
           clear p6 k6 hX6 tk1 _t ew5 ew4 xm pw pb hc1 hc2 hc3 hc4 y0 y1 y2 y3 hz0 hz1)
        | (go_at_call 51; refine (pen_int (HX H b v x) g _ wt w6 P6 HS6 i3 i4 (by rw [List.length_append, List.length_append]; have := HYL.out; have := HTL.out; have := putN_len10 (zz_lt i1 i2); omega)).mono ?_; rintro en w7 ⟨rfl, p7, k7⟩
           have P7 := Lib.hid p7; have K7 := Lib.hid (K6.out.trans k7)
           have hX7 := k7.blk HX6.out (.inr rfl)
           clear m0 m1 e0 hs6
           have m0 := hX7.cell 0
           have m1 := hX7.cell 1
           have e1 := hX7.frozen 1
           have hs7 : w7.setCell ⟨x, 1, none⟩ (.int .i64 wt) = w7 := set_same_world hX7 rfl
           have HOW := Lib.hid (K7.out.own (HM.out.own.kept (row := none) ⟨HB5.out.os, HB5.out.tape, HB5.out.output, HB5.out.size, fun k hk _ => HB5.out.block k hk⟩ (by cases hv : v.ownBlock <;> simp)) (fun j e => .inl (.inr e)))
           have HZ7 := Lib.hid (show b + 2 ≤ w7.heap.size from by have h1 := HM.out.r.lt; have h2 := HB5.out.size; have h3 := K7.out.size; omega)
           clear p7 k7 hX7)
        | (at_builtin
           refine wpList_append_any _ rfl _ _ 23 rfl (b + 2) 41 ii _ 2 16 Try.underlying23 HII.out.1 HII.out.2.1 HII.out.2.2.1 HII.out.2.2.2 rfl (by decide) v k (mcells (ms.take k)) rfl (HOW.out.alloc _) (w7.heap.size + 1) (some ⟨w7.heap.size, 0, none⟩) 1 1 (mcells [(mid, wt)]) rfl (Reads.lit w7 41 [.int .i64 mid, .int .i64 wt] 2 1 rfl) (mcells_one _) (by unfold maxLen; omega) (by omega) (by have := HZ7.out; simp; omega) ?_
           intro v8 w8 o8 g8 n8
           have HM8 : Hid (MS H g b e (some a1) n cap ms w ys (k + 1) v8 w8) := Lib.hid (by
             have hx := HXE.out
             subst hx
             exact HM.out.step HB5.out K7.out P7.out (by rw [HTS.out, memsB_snoc]; simp only [List.append_assoc]) (by rw [HTS.out, mcells_append]; exact o8) g8 n8)
           clear o8 g8 n8 m0 m1 e1 hs7))
      exact ⟨⟨k + 1, by omega, by go_num, HM8⟩, by simp [intOf]; omega⟩
    · obtain rfl : n = k := by omega
      have d1 : decide (n < n) = false := decide_eq_false hlt
      obtain ⟨Av, nv, cv, rfl⟩ := own_form HM.out.own
      have q0 := HM.out.m.cell 0
      have q1 := HM.out.m.frozen 1
      have q2 := HM.out.r.cell 0
      have q3 := HM.out.r.cell 1
      have q4 := HM.out.r.frozen 0
      have q5 := HM.out.r.frozen 1
      go_wp2
      have HF : Hid (Pen H g (xs ++ mapB e ms) (((wr.setCell ⟨b, 1, none⟩ (.slice Av nv cv)).setCell ⟨b + 1, 0, none⟩ (.int .u64 e)).setCell ⟨b + 1, 1, none⟩ (.slice Av nv cv)) ∧ Keep H w (((wr.setCell ⟨b, 1, none⟩ (.slice Av nv cv)).setCell ⟨b + 1, 0, none⟩ (.int .u64 e)).setCell ⟨b + 1, 1, none⟩ (.slice Av nv cv))) := Lib.hid (by
        have sb := HM.out.safe b (.inl (.inr (.inl rfl)))
        have sr := HM.out.safe (b + 1) (.inl (.inr (.inr rfl)))
        refine ⟨?_, ?_⟩
        · have h := ((HM.out.pen.only (Only.set_ _ b 1 (.slice Av nv cv)) (.inl (.inr (.inl rfl))) sb.2).only (Only.set_ _ (b + 1) 0 (.int .u64 e)) (.inl (.inr (.inr rfl))) sr.2).only (Only.set_ _ (b + 1) 1 (.slice Av nv cv)) (.inl (.inr (.inr rfl))) sr.2
          have e1 : xs ++ mapB e ms = ys ++ memsB (ms.take n) := by
            rw [← HYS.out, List.take_of_length_le (by rw [hl.out]; exact Nat.le_refl _)]
            unfold mapB
            rw [hl.out]
            simp only [List.append_assoc]
          rw [e1]
          exact h.mono fun k hk => .inl (.inl (.inl hk))
        · exact ((HM.out.keep.trans (Keep.set_ H _ 1 _ (HM.out.nh b (Nat.le_refl _)))).trans (Keep.set_ H _ 0 _ (HM.out.nh (b + 1) (by omega)))).trans (Keep.set_ H _ 1 _ (HM.out.nh (b + 1) (by omega))))
      refine bodyPost_ret (v := .agg #[.int .u64 e, .slice Av nv cv]) (by simp [results, Try.results45, go_sem, q2, q3]) rfl ⟨⟨_, rfl⟩, HF.out.1, HF.out.2⟩
end Go.Proofs.Ytmdffmajnbokeaa
