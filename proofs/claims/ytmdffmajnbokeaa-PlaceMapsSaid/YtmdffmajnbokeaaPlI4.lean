/-
  The reference's With; where With refuses. (printed by gen_pli4.py)
-/
import Derived.Test.YtmdffmajnbokeaaPlI3
namespace Go.Proofs.Ytmdffmajnbokeaa
open Go.RowKit StrMath PlMath
set_option linter.unusedVariables false
/-- The map that the reference fills: block ob. -/
structure RS (w0 : World) (ob e' : Nat) (v : Value) (l : List Mem) (wr : World) : Prop where
  bel : Below ob w0 wr
  lt : ob < wr.heap.size
  blk : Blk wr ob 25 #[.int .u64 (e' : Int), v]
  own : wr.ownsRow (ob + 1) 41 2 v l.length (mcells l)
/-- Behind the append, ahead of the store. -/
structure RSq (w0 : World) (ob e' : Nat) (v v' : Value) (l : List Mem) (wr : World) : Prop where
  bel : Below ob w0 wr
  lt : ob < wr.heap.size
  blk : Blk wr ob 25 #[.int .u64 (e' : Int), v]
  own : wr.ownsRow (ob + 1) 41 2 v' l.length (mcells l)
section
variable {w0 w wr w' : World} {ob e' : Nat} {v v' : Value} {l : List Mem}
theorem RS.later (h : RS w0 ob e' v l wr) (hb : Below wr.heap.size wr w') : RS w0 ob e' v l w' :=
  ⟨h.bel.trans (hb.mono (Nat.le_of_lt h.lt)), Nat.lt_of_lt_of_le h.lt hb.size, h.blk.below hb h.lt, h.own.kept (row := none) ⟨hb.os, hb.tape, hb.output, hb.size, fun k hk _ => hb.block k hk⟩ (by cases hv : v.ownBlock <;> simp)⟩
theorem RSq.store (h : RSq w0 ob e' v v' l wr) : RS w0 ob e' v' l (wr.setCell ⟨ob, 1, none⟩ v') := by
  have hne : v'.ownBlock ≠ some ob := fun e => by have := (h.own.lt _ e).1; omega
  refine ⟨h.bel.setCell (Nat.le_refl _) _, by simp; exact h.lt, ?_, own_far h.own hne _⟩
  have := h.blk.set_ 1 v'
  simpa using this
theorem RS.start (w : World) (e' : Nat) : RS (w.alloc (.cells #[.int .u64 (e' : Int), .slice none 0 0] 25)) w.heap.size e' (.slice none 0 0) [] (w.alloc (.cells #[.int .u64 (e' : Int), .slice none 0 0] 25)) :=
  ⟨Below.refl _ _, by simp, Blk.new _ _ _, ⟨rfl, .inl ⟨rfl, rfl⟩⟩⟩
theorem wpl_rs {ops : Array Oper} {rest : List Oper} {o : Oper} {a : Act} {Q : Exit → Act → World → Prop} (hg : o.guard = none) (s x : Operand)
    (ho : o.op = .call { callee := .builtin .append, args := #[s, x], argTypes := #[23, 23] }) (hst : RS w0 ob e' v l wr) (hl : (l.length + 1) * 16 ≤ 140737488355328) (mid wt : Int) (hs : a.eval s = v) (hx : a.eval x = .slice (some ⟨wr.heap.size, 0, none⟩) 1 1)
    (h : ∀ v' w', Hid (RSq w0 ob e' v v' (l ++ [(mid, wt)]) w') → Hid ((wr.alloc (.cells #[.int .i64 mid, .int .i64 wt] 41)).grownBy w' v.ownBlock) → wpList Try.prog ops Q rest (a.put o.dst v') w') : wpList Try.prog ops Q (o :: rest) a (wr.alloc (.cells #[.int .i64 mid, .int .i64 wt] 41)) := by
  have h1 := hst.later ((Below.refl wr.heap.size wr).alloc (Nat.le_refl _) (.cells #[.int .i64 mid, .int .i64 wt] 41))
  obtain ⟨i, hi, h2, h3, h4⟩ := info_parts Try.infoMem
  refine wpList_append_any _ hg s x 23 ho (ob + 1) 41 i _ 2 16 Try.underlying23 hi h2 h3 h4 rfl (by decide) v l.length (mcells l) hs h1.own (wr.heap.size + 1) (some ⟨wr.heap.size, 0, none⟩) 1 1 (mcells [(mid, wt)]) hx (Reads.lit wr 41 [.int .i64 mid, .int .i64 wt] 2 1 rfl) (mcells_one _) (by unfold maxLen; omega) (by omega) (by have := h1.lt; omega)
    fun v' w' k1 k2 _ => h v' w' (Lib.hid ⟨h1.bel.grown k2 (Nat.le_of_lt h1.lt) (fun k hk => by have := (h1.own.lt k hk).1; omega), Nat.lt_of_lt_of_le h1.lt k2.size, h1.blk.grown k2 (fun e => by have := (h1.own.lt ob e.symm).1; omega), ?_⟩) (Lib.hid k2)
  rw [mcells_append]
  simpa using k1
end
theorem own_form {w : World} {base : Nat} {t : TypeId} {size n : Nat} {v : Value} {xs : List Value} (h : w.ownsRow base t size v n xs) : ∃ A m c, v = .slice A m c := by
  obtain ⟨_, _, e, _⟩ := own_slice h
  exact ⟨_, _, _, e⟩
structure Box2 (w : World) (cs : Array Value) (wi : World) : Prop where
  bel : Below w.heap.size w wi
  b0 : Blk wi w.heap.size 25 cs
  b1 : Blk wi (w.heap.size + 1) 25 #[.int .u64 0, .slice none 0 0]
theorem Box2.new (w : World) (cs : Array Value) : Box2 w cs ((w.alloc (.cells cs 25)).alloc (.cells #[.int .u64 0, .slice none 0 0] 25)) := by
  have s1 : (w.alloc (.cells cs 25)).heap.size = w.heap.size + 1 := by simp
  refine ⟨((Below.refl _ _).alloc (Nat.le_refl _) _).alloc (by simp) _, (Blk.new w _ _).alloc _, ?_⟩
  have := Blk.new (w.alloc (.cells cs 25)) 25 #[.int .u64 0, .slice none 0 0]
  rwa [s1] at this
theorem Box2.below {w wi w' : World} {cs : Array Value} (h : Box2 w cs wi) (hb : Below wi.heap.size wi w') : Box2 w cs w' :=
  ⟨h.bel.trans (hb.mono h.bel.size), h.b0.below hb h.b0.lt, h.b1.below hb h.b1.lt⟩
set_option maxRecDepth 100000 in
set_option maxHeartbeats 8000000 in
theorem rwith_ok (e : Nat) (A : Option Addr) (n cap : Nat) (ms : List Mem) (id wt : Int) (w : World) (he : e < 18446744073709551616) (hr : Hid (Reads w w.heap.size 2 A n (mcells ms))) (h64 : M64 ms) (hc : n ≤ cap) (hm : cap ≤ maxLen) (hk : chk ms = true) (hid0 : 1 ≤ id) (hid1 : id ≤ 32) (hw0 : 0 ≤ wt) (hw1 : wt ≤ 65535) :
    Calls Try.prog 20 #[mapV e A n cap, .int .i64 id, .int .i64 wt] w (RetME ((e + 1) % 18446744073709551616) (withR ms id wt) 0 w) := by
  have H := Lib.hid (fun W h => rcheck_any e A n cap ms W h h64 hc hm)
  have E0 : Hid (errM (chk ms) = 0) := Lib.hid (by rw [hk]; rfl)
  obtain ⟨hU, hn32⟩ := chk_up hk
  have hl : ms.length = n := by have := hr.out.1; rw [mcells_len] at this; omega
  rw [hl] at hn32
  have d1 : decide (id < 1) = false := decide_eq_false (by omega)
  have d2 : decide (32 < id) = false := decide_eq_false (by omega)
  have d3 : decide (wt < 0) = false := decide_eq_false (by omega)
  have d4 : decide (65535 < wt) = false := decide_eq_false (by omega)
  have HL := Lib.hid hl
  have HEND := Lib.hid (show withR ms id wt = rwEnd id wt (rwTo ms id wt ms.length) from rfl)
  rw [hl] at HEND
  clear hU hl hk h64
  unfold maxLen at hm
  unfold mapV at H ⊢
  go_enter Try.func20, Try.ntmps20
  go_wp2_with fail
  have hB := Box2.new w #[.int .u64 (e : Int), .slice A n cap]
  revert hB
  generalize (w.alloc (.cells #[.int .u64 (e : Int), .slice A n cap] 25)).alloc (.cells #[.int .u64 0, .slice none 0 0] 25) = w1
  intro hB
  have HB := Lib.hid hB
  clear hB
  refine (H.out w1 ((hr.out.below HB.out.bel).more HB.out.bel.size)).mono ?_
  rintro e2 w2 ⟨rfl, hb⟩
  have HB := Lib.hid (HB.out.below hb)
  rw [E0.out]
  have x0 := HB.out.b0.cell 0
  have x1 := HB.out.b0.cell 1
  clear hb H
  obtain ⟨e', ee⟩ : ∃ e', (e + 1) % 18446744073709551616 = e' := ⟨_, rfl⟩
  have he1 : IntKind.u64.wrap ((e : Int) + 1) = (e' : Int) := by rw [IntKind.wrap_u64]; omega
  have EE := Lib.hid ee
  clear ee
  have HRS0 := Lib.hid (RS.start w2 e')
  have hb3 : Below w2.heap.size w2 (w2.alloc (.cells #[.int .u64 (e' : Int), .slice none 0 0] 25)) := (Below.refl _ _).alloc (Nat.le_refl _) _
  have HB3 := Lib.hid (HB.out.below hb3)
  have HOB := Lib.hid (show w.heap.size + 1 < w2.heap.size from HB.out.b1.lt)
  clear hb3 HB
  go_wp2
  clear x0 x1 he1
  generalize w2.alloc (.cells #[.int .u64 (e' : Int), .slice none 0 0] 25) = w3 at *
  generalize w2.heap.size = ob at *
  go_loopw [9, 10, 11] (fun vp vi _ wr => ∃ (j : Nat) (s : Bool) (l : List Mem) (v : Value), j ≤ n ∧ vi = .int .i64 j ∧ vp = .bool s ∧ Hid (rwTo ms id wt j = (s, l)) ∧ Hid (RS w3 ob e' v l wr) ∧ Hid (l.length ≤ 2 * j)) (fun _ vi _ _ => n - (intOf vi).toNat)
  case atStart => exact ⟨0, false, [], _, by omega, rfl, rfl, Lib.hid rfl, HRS0, Lib.hid (by simp)⟩
  case round =>
    obtain ⟨j, s, l, v, hj, rfl, rfl, HRW, HRS, HLN⟩ := hrel
    clear HRS0
    have hbo : Below ob w3 wr := HRS.out.bel
    have HBO := Lib.hid hbo
    have xm : wr.cell? ⟨w.heap.size, 1, none⟩ = some (.slice A n cap) := (hbo.cell (p := ⟨w.heap.size, 1, none⟩) (by have := HOB.out; show w.heap.size < ob; omega)).trans (HB3.out.b0.cell 1)
    have hbw : Below w.heap.size w wr := HB3.out.bel.trans (hbo.mono (by have := HOB.out; omega))
    have HBW := Lib.hid hbw
    have hon : ob ≠ w.heap.size := by have := HOB.out; omega
    by_cases hlt : j < n
    · have d5 : decide (j < n) = true := decide_eq_true hlt
      obtain ⟨a1, rfl, hb1, hc1, hc2⟩ := (hr.out.below hbw).mem hlt
      obtain ⟨p, ex⟩ : ∃ p, ms.getD j (0, 0) = p := ⟨_, rfl⟩
      rw [ex] at hc1 hc2
      have HST := Lib.hid (show rwTo ms id wt (j + 1) = rwStep id wt (s, l) p from by rw [rwTo, HRW.out, ex])
      clear ex
      obtain ⟨xi, xw⟩ := p
      simp only at hc1 hc2
      obtain ⟨w5, ew5⟩ : ∃ w5, wr.alloc (.cells #[.int .i64 xi, .int .i64 xw] 41) = w5 := ⟨_, rfl⟩
      have hb5 : Below wr.heap.size wr w5 := by rw [← ew5]; exact (Below.refl _ _).alloc (Nat.le_refl _) _
      have hX5 : Blk w5 wr.heap.size 41 #[.int .i64 xi, .int .i64 xw] := by rw [← ew5]; exact Blk.new wr _ _
      have HX5 := Lib.hid hX5
      have HR5 := Lib.hid (HRS.out.later hb5)
      have HNX := Lib.hid (show v.ownBlock ≠ some wr.heap.size from fun h => by have := (HRS.out.own.lt _ h).2; omega)
      have HOX := Lib.hid (show ob < wr.heap.size from HRS.out.lt)
      have m0 := hX5.cell 0
      have m1 := hX5.cell 1
      have o1 := HR5.out.blk.cell 1
      have of := HR5.out.blk.frozen 1
      obtain ⟨Av, nv, cv, rfl⟩ := own_form HRS.out.own
      clear hb5 hX5 HRS HRW hbo hbw
      by_cases h1 : s = false ∧ id ≤ xi
      · obtain ⟨rfl, h1⟩ := h1
        have t1 : decide (xi ≥ id) = true := decide_eq_true h1
        by_cases h2 : xi = id
        · have t2 : (xi != id) = false := by rw [h2]; simp
          have hst : rwStep id wt (false, l) (xi, xw) = (true, l ++ [(id, wt)]) := by unfold rwStep; rw [if_pos ⟨rfl, h1⟩, if_neg (by simpa using h2)]
          have H2 := Lib.hid h2
          clear h2 h1
          rw [hst] at HST
          go_wp2_with (first
            | (at_builtin
               refine wpl_rs rfl _ _ rfl HR5.out (by have := HLN.out; omega) id wt rfl rfl ?_
               intro v6 w6 hq6 hg6
               have hX6 := (HX5.out.alloc (.cells #[.int .i64 id, .int .i64 wt] 41)).grown hg6.out (fun e => HNX.out e.symm)
               obtain ⟨A6, n6, c6, rfl⟩ := own_form hq6.out.own
               have o61 := hq6.out.blk.cell 1
               have of6 := hq6.out.blk.frozen 1
               have HR7 := Lib.hid hq6.out.store
               have hX7 := hX6.far (p := ⟨ob, 1, none⟩) (fun e => by have := HOX.out; simp at e; omega) (.slice A6 n6 c6)
               obtain ⟨w7, ew7⟩ : ∃ w7, w6.setCell ⟨ob, 1, none⟩ (.slice A6 n6 c6) = w7 := ⟨_, rfl⟩
               rw [ew7] at HR7 hX7
               have m70 := hX7.cell 0
               have m71 := hX7.cell 1
               have o71 := HR7.out.blk.cell 1
               have of7 := HR7.out.blk.frozen 1
               clear hX6 hX7 m0 m1 o1 of ew5 hg6 xm hc1 hc2))
          exact ⟨⟨j + 1, _, _, _, by omega, by go_num, rfl, HST, HR7, Lib.hid (by simp only [List.length_append, List.length_cons, List.length_nil]; have := HLN.out; omega)⟩, by simp [intOf]; omega⟩
        · have t2 : (xi != id) = true := by rw [bne_iff_ne]; exact h2
          have hst : rwStep id wt (false, l) (xi, xw) = (true, l ++ [(id, wt)] ++ [(xi, xw)]) := by unfold rwStep; rw [if_pos ⟨rfl, h1⟩, if_pos h2]
          clear h2 h1
          rw [hst] at HST
          have tk1 : True := trivial
          go_wp2_with (first
            | (have _t := tk1; at_builtin
               refine wpl_rs rfl _ _ rfl HR5.out (by have := HLN.out; omega) id wt rfl rfl ?_
               intro v6 w6 hq6 hg6
               have hX6 := (HX5.out.alloc (.cells #[.int .i64 id, .int .i64 wt] 41)).grown hg6.out (fun e => HNX.out e.symm)
               obtain ⟨A6, n6, c6, rfl⟩ := own_form hq6.out.own
               have o61 := hq6.out.blk.cell 1
               have of6 := hq6.out.blk.frozen 1
               have HR7 := Lib.hid hq6.out.store
               have hX7 := hX6.far (p := ⟨ob, 1, none⟩) (fun e => by have := HOX.out; simp at e; omega) (.slice A6 n6 c6)
               obtain ⟨w7, ew7⟩ : ∃ w7, w6.setCell ⟨ob, 1, none⟩ (.slice A6 n6 c6) = w7 := ⟨_, rfl⟩
               rw [ew7] at HR7 hX7
               have m70 := hX7.cell 0
               have m71 := hX7.cell 1
               have o71 := HR7.out.blk.cell 1
               have of7 := HR7.out.blk.frozen 1
               clear hX6 hX7 m0 m1 o1 of ew5 hg6 xm hc1 hc2; clear tk1 _t)
            | (at_builtin
               refine wpl_rs rfl _ _ rfl HR7.out (by rw [List.length_append]; have := HLN.out; simp; omega) xi xw rfl rfl ?_
               intro v8 w8 hq8 hg8
               obtain ⟨A8, n8, c8, rfl⟩ := own_form hq8.out.own
               have o81 := hq8.out.blk.cell 1
               have of8 := hq8.out.blk.frozen 1
               have HR9 := Lib.hid hq8.out.store
               clear m70 m71 o71 of7 hg8))
          exact ⟨⟨j + 1, _, _, _, by omega, by go_num, rfl, HST, HR9, Lib.hid (by simp only [List.length_append, List.length_cons, List.length_nil]; have := HLN.out; omega)⟩, by simp [intOf]; omega⟩
      · cases s with
        | true =>
          by_cases h2 : xi = id
          · have t2 : (xi != id) = false := by rw [h2]; simp
            have hst : rwStep id wt (true, l) (xi, xw) = (true, l) := by unfold rwStep; rw [if_neg (by simp), if_neg (by simpa using h2)]
            have H2 := Lib.hid h2
            clear h2
            rw [hst] at HST
            go_wp2
            exact ⟨⟨j + 1, _, _, _, by omega, by go_num, rfl, HST, HR5, Lib.hid (by have := HLN.out; omega)⟩, by simp [intOf]; omega⟩
          · have t2 : (xi != id) = true := by rw [bne_iff_ne]; exact h2
            have hst : rwStep id wt (true, l) (xi, xw) = (true, l ++ [(xi, xw)]) := by unfold rwStep; rw [if_neg (by simp), if_pos h2]
            clear h2
            rw [hst] at HST
            go_wp2_with (first
                      | (at_builtin
                         refine wpl_rs rfl _ _ rfl HR5.out (by have := HLN.out; omega) xi xw rfl rfl ?_
                         intro v8 w8 hq8 hg8
                         obtain ⟨A8, n8, c8, rfl⟩ := own_form hq8.out.own
                         have o81 := hq8.out.blk.cell 1
                         have of8 := hq8.out.blk.frozen 1
                         have HR9 := Lib.hid hq8.out.store
                         clear m0 m1 o1 of ew5 xm hc1 hc2 hg8))
            exact ⟨⟨j + 1, _, _, _, by omega, by go_num, rfl, HST, HR9, Lib.hid (by simp only [List.length_append, List.length_cons, List.length_nil]; have := HLN.out; omega)⟩, by simp [intOf]; omega⟩
        | false =>
          have hlo : xi < id := Int.not_le.1 fun h => h1 ⟨rfl, h⟩
          clear h1
          by_cases h2 : xi = id
          · have t1 : decide (xi ≥ id) = false := decide_eq_false (by omega)
            have t2 : (xi != id) = false := by rw [h2]; simp
            have hst : rwStep id wt (false, l) (xi, xw) = (false, l) := by unfold rwStep; rw [if_neg (by rintro ⟨_, h⟩; omega), if_neg (by simpa using h2)]
            have H2 := Lib.hid h2
            clear h2
            rw [hst] at HST
            go_wp2
            exact ⟨⟨j + 1, _, _, _, by omega, by go_num, rfl, HST, HR5, Lib.hid (by have := HLN.out; omega)⟩, by simp [intOf]; omega⟩
          · have t1 : decide (xi ≥ id) = false := decide_eq_false (by omega)
            have t2 : (xi != id) = true := by rw [bne_iff_ne]; exact h2
            have hst : rwStep id wt (false, l) (xi, xw) = (false, l ++ [(xi, xw)]) := by unfold rwStep; rw [if_neg (by rintro ⟨_, h⟩; omega), if_pos h2]
            clear h2
            rw [hst] at HST
            go_wp2_with (first
                      | (at_builtin
                         refine wpl_rs rfl _ _ rfl HR5.out (by have := HLN.out; omega) xi xw rfl rfl ?_
                         intro v8 w8 hq8 hg8
                         obtain ⟨A8, n8, c8, rfl⟩ := own_form hq8.out.own
                         have o81 := hq8.out.blk.cell 1
                         have of8 := hq8.out.blk.frozen 1
                         have HR9 := Lib.hid hq8.out.store
                         clear m0 m1 o1 of ew5 xm hc1 hc2 hg8))
            exact ⟨⟨j + 1, _, _, _, by omega, by go_num, rfl, HST, HR9, Lib.hid (by simp only [List.length_append, List.length_cons, List.length_nil]; have := HLN.out; omega)⟩, by simp [intOf]; omega⟩
    · obtain rfl : n = j := by omega
      have d5 : decide (n < n) = false := decide_eq_false hlt
      have HEQ0 := Lib.hid (HEND.out.trans (congrArg (rwEnd id wt) HRW.out))
      cases s with
      | true =>
        have HEQ := Lib.hid (show withR ms id wt = l from HEQ0.out)
        have HOWN0 := HRS.out.own
        obtain ⟨N, hN⟩ : ∃ N, l.length = N := ⟨_, rfl⟩
        rw [hN] at HOWN0
        obtain ⟨A9, c9, rfl, q1, q2⟩ := own_slice HOWN0
        have HOWN := Lib.hid HOWN0
        have HQ9 := Lib.hid (And.intro q1 q2)
        clear hN HOWN0 q1 q2 hbo hbw
        have HFR := Lib.hid (show (Value.slice A9 N c9).ownBlock ≠ some (w.heap.size + 1) from fun h => by have h1 := (HRS.out.own.lt _ h).1; have := HOB.out; omega)
        have y0 := HRS.out.blk.cell 0
        have y1 := HRS.out.blk.cell 1
        have hbx : Below ob w3 wr := HRS.out.bel
        have HBX := Lib.hid (HB3.out.bel.trans (hbx.mono (by have := HOB.out; omega)))
        have r0 := (hbx.cell (p := ⟨w.heap.size + 1, 0, none⟩) HOB.out).trans (HB3.out.b1.cell 0)
        have r1 := (hbx.cell (p := ⟨w.heap.size + 1, 1, none⟩) HOB.out).trans (HB3.out.b1.cell 1)
        have f0 := (hbx.frozen (p := ⟨w.heap.size + 1, 0, none⟩) HOB.out).trans (HB3.out.b1.frozen 0)
        have f1 := (hbx.frozen (p := ⟨w.heap.size + 1, 1, none⟩) HOB.out).trans (HB3.out.b1.frozen 1)
        clear hbx
        go_wp2
        rw [EE.out]
        have hW : Hid (Below w.heap.size w ((wr.setCell ⟨w.heap.size + 1, 0, none⟩ (.int .u64 (e' : Int))).setCell ⟨w.heap.size + 1, 1, none⟩ (.slice A9 N c9))) :=
          Lib.hid ((HBX.out.setCell (p := ⟨w.heap.size + 1, 0, none⟩) (by show _ ≤ _ + 1; omega) _).setCell (p := ⟨w.heap.size + 1, 1, none⟩) (by show _ ≤ _ + 1; omega) _)
        have HRF := Lib.hid (Reads.of_own (own_far (p := ⟨w.heap.size + 1, 1, none⟩) (own_far (p := ⟨w.heap.size + 1, 0, none⟩) HOWN.out HFR.out (.int .u64 (e' : Int))) HFR.out (.slice A9 N c9)))
        refine bodyPost_ret (v := .tuple #[mapV e' A9 N c9, .int .i64 0]) (by simp [results, Try.results20, go_sem, mapV, r0, r1]) rfl ⟨A9, N, c9, rfl, by rw [HEQ.out]; exact HRF, HQ9.out.1, HQ9.out.2, hW.out⟩
      | false =>
        have HEQ1 := Lib.hid (show withR ms id wt = l ++ [(id, wt)] from HEQ0.out)
        have o1 := HRS.out.blk.cell 1
        have of := HRS.out.blk.frozen 1
        obtain ⟨L, hL⟩ : ∃ L, l ++ [(id, wt)] = L := ⟨_, rfl⟩
        rw [hL] at HEQ1
        have HLL := Lib.hid hL
        obtain ⟨Av, nv, cv, rfl⟩ := own_form HRS.out.own
        clear hbo hbw hL
        go_wp2_with (
             at_builtin
             refine wpl_rs rfl _ _ rfl HRS.out (by have := HLN.out; omega) id wt rfl rfl ?_
             intro v6 w6 hq6 hg6
             rw [HLL.out] at hq6
             have hown6 := hq6.out.own
             obtain ⟨N, hN⟩ : ∃ N, L.length = N := ⟨_, rfl⟩
             rw [hN] at hown6
             obtain ⟨A9, c9, rfl, q1, q2⟩ := own_slice hown6
             have HQ9 := Lib.hid (And.intro q1 q2)
             have o61 := hq6.out.blk.cell 1
             have of6 := hq6.out.blk.frozen 1
             have HR7 := Lib.hid hq6.out.store
             obtain ⟨w7, ew7⟩ : ∃ w7, w6.setCell ⟨ob, 1, none⟩ (.slice A9 N c9) = w7 := ⟨_, rfl⟩
             rw [ew7] at HR7
             have HOWN0 := HR7.out.own
             rw [hN] at HOWN0
             have HOWN := Lib.hid HOWN0
             have HEQ := HEQ1
             clear hN HOWN0 hown6 q1 q2 o1 of hg6 xm
             have HFR := Lib.hid (show (Value.slice A9 N c9).ownBlock ≠ some (w.heap.size + 1) from fun h => by have h1 := (HR7.out.own.lt _ h).1; have := HOB.out; omega)
             have y0 := HR7.out.blk.cell 0
             have y1 := HR7.out.blk.cell 1
             have hbx : Below ob w3 w7 := HR7.out.bel
             have HBX := Lib.hid (HB3.out.bel.trans (hbx.mono (by have := HOB.out; omega)))
             have r0 := (hbx.cell (p := ⟨w.heap.size + 1, 0, none⟩) HOB.out).trans (HB3.out.b1.cell 0)
             have r1 := (hbx.cell (p := ⟨w.heap.size + 1, 1, none⟩) HOB.out).trans (HB3.out.b1.cell 1)
             have f0 := (hbx.frozen (p := ⟨w.heap.size + 1, 0, none⟩) HOB.out).trans (HB3.out.b1.frozen 0)
             have f1 := (hbx.frozen (p := ⟨w.heap.size + 1, 1, none⟩) HOB.out).trans (HB3.out.b1.frozen 1)
             clear hbx)
        rw [EE.out]
        have hW : Hid (Below w.heap.size w ((w7.setCell ⟨w.heap.size + 1, 0, none⟩ (.int .u64 (e' : Int))).setCell ⟨w.heap.size + 1, 1, none⟩ (.slice A9 N c9))) :=
          Lib.hid ((HBX.out.setCell (p := ⟨w.heap.size + 1, 0, none⟩) (by show _ ≤ _ + 1; omega) _).setCell (p := ⟨w.heap.size + 1, 1, none⟩) (by show _ ≤ _ + 1; omega) _)
        have HRF := Lib.hid (Reads.of_own (own_far (p := ⟨w.heap.size + 1, 1, none⟩) (own_far (p := ⟨w.heap.size + 1, 0, none⟩) HOWN.out HFR.out (.int .u64 (e' : Int))) HFR.out (.slice A9 N c9)))
        refine bodyPost_ret (v := .tuple #[mapV e' A9 N c9, .int .i64 0]) (by simp [results, Try.results20, go_sem, mapV, r0, r1]) rfl ⟨A9, N, c9, rfl, by rw [HEQ.out]; exact HRF, HQ9.out.1, HQ9.out.2, hW.out⟩
end Go.Proofs.Ytmdffmajnbokeaa
