/-
  THE PROGRAM'S READER: rows of objects, of intents. (printed by gen_par13.py); THE PROGRAM'S READER: rows of sessions. (printed by gen_par14.py). (joined out of PaR13, PaR14 by shake.py)
-/
import Derived.Test.YthgiafjiemiifaaGreatPbk25
section
namespace Go.Proofs.YthgiafjiemiifaaGreat
open Go.RowKit OctMath
set_option linter.unusedVariables false
/-- A row does not lie in a value's own block. -/
def Off (v : Value) (n : Nat) (A : Option Addr) : Prop := 0 < n → ∀ ad, A = some ad → v.ownBlock ≠ some ad.block
/-- Rows of the elements of a list that grows. -/
structure Subs (lo : Nat) (v : Value) (l : List (Option Addr × Nat × List Int)) (w : World) : Prop where
  all : ∀ m ∈ l, Lst lo 1 m.1 m.2.1 m.2.2.length (m.2.2.map iv) w ∧ Off v m.2.2.length m.1
theorem Subs.nil (lo : Nat) (v : Value) (w : World) : Subs lo v [] w := ⟨fun m h => by cases h⟩
theorem Subs.keep {lo g : Nat} {v : Value} {l : List (Option Addr × Nat × List Int)} {w w' : World} (h : Subs lo v l w) (hk : Keep (Not g) w w') (hg : g < lo) : Subs lo v l w' := ⟨fun m hm => ⟨(h.all m hm).1.keep hk hg, (h.all m hm).2⟩⟩
theorem Lst.lt {lo size : Nat} {A : Option Addr} {c k : Nat} {xs : List Value} {w : World} (h : Lst lo size A c k xs w) (hk : 0 < k) {ad : Addr} (e : A = some ad) : ad.block < w.heap.size := by
  obtain ⟨ad', e', hb, -⟩ := h.rd.2 hk
  rw [e] at e'
  obtain rfl := Option.some.inj e'
  exact hb
theorem Subs.more {lo : Nat} {v v' : Value} {l : List (Option Addr × Nat × List Int)} {w w' : World} {o : Obj} (h : Subs lo v l w) (hg : (w.alloc o).grownBy w' v.ownBlock) (hv : v'.ownBlock = v.ownBlock ∨ v'.ownBlock = some (w.alloc o).heap.size) : Subs lo v' l w' := by
  refine ⟨fun m hm => ?_⟩
  obtain ⟨h1, h2⟩ := h.all m hm
  have hs : (w.alloc o).heap.size = w.heap.size + 1 := by simp
  refine ⟨⟨⟨h1.rd.1, fun hn => ?_⟩, h1.lo, h1.kc, h1.cm⟩, fun hn ad e => ?_⟩
  · obtain ⟨ad, e, hb, hc⟩ := h1.rd.2 hn
    refine ⟨ad, e, by have := hg.size; omega, fun j u hu => ?_⟩
    rw [← hc j u hu]
    refine World.cell?_of_block ?_
    rw [block_of_add]
    rw [hg.block _ (by omega) (fun e' => h2 hn ad e e'.symm)]
    exact heap_alloc_old w o hb
  · have := h1.lt hn e
    rcases hv with hv | hv
    · rw [hv]; exact h2 hn ad e
    · rw [hv]; intro e'; injection e' with e'; omega
theorem wpl_li3 {ops : Array Oper} {rest : List Oper} {o : Oper} {a : Act} {Q : Exit → Act → World → Prop} {g : Nat} {A : Option Addr} {n cap : Nat} {bs : List Nat} {w1 wr : World} {te : TypeId} {size : Nat} {v : Value} {k : Nat} {xs : List Value} {q q1 : Nat} (hg : o.guard = none) (s x : Operand) (ts : TypeId) (z : Value) (bytes : Nat)
    (hts : Tryz.prog.underlying ts = some (.slice te)) (hinfo : (Tryz.prog.info? te).map (fun i => (i.zero, i.size, i.bytes)) = some (some z, size, bytes)) (hz : z.cells.size = size) (h0 : 0 < size) (hb0 : 0 < bytes)
    (ho : o.op = .call { callee := .builtin .append, args := #[s, x], argTypes := #[ts, ts] }) (hst : LiR g A n cap bs w1 te size v k xs q wr) (hp1 : PG g A n cap bs q1 w1) (hl : (k + 1) * bytes ≤ 140737488355328) (us : List Value) (hus : us.length = 1 * size) (hu : ∀ u ∈ us, u.oneCell' = true) (hs : a.eval s = v) (hx : a.eval x = .slice (some ⟨wr.heap.size, 0, none⟩) 1 1)
    (h : ∀ v' w', Hid (LiR g A n cap bs w1 te size v' (k + 1) (xs ++ us) q w') → Hid ((wr.alloc (.cells us.toArray te)).grownBy w' v.ownBlock ∧ (v'.ownBlock = v.ownBlock ∨ v'.ownBlock = some (wr.alloc (.cells us.toArray te)).heap.size)) → wpList Tryz.prog ops Q rest (a.put o.dst v') w') : wpList Tryz.prog ops Q (o :: rest) a (wr.alloc (.cells us.toArray te)) := by
  obtain ⟨ii, q1', q2, q3, q4⟩ := info_parts hinfo
  have hsz := hst.kp.size
  have hb1 : Below w1.heap.size wr (wr.alloc (.cells us.toArray te)) := (Below.refl _ _).alloc hsz _
  have hst' : LiR g A n cap bs w1 te size v k xs q (wr.alloc (.cells us.toArray te)) := hst.grow hp1 (hst.own.alloc _) hb1
  have hk : (k + 1) ≤ maxLen := by
    unfold maxLen
    have : (k + 1) * 1 ≤ (k + 1) * bytes := Nat.mul_le_mul_left _ hb0
    omega
  refine wpList_append_any _ hg s x ts ho w1.heap.size te ii z size bytes hts q1' q2 q3 q4 hz h0 v k xs hs hst'.own (wr.heap.size + 1) (some ⟨wr.heap.size, 0, none⟩) 1 1 us hx (Reads.lit wr te us size 1 hus) hu hk hl (Nat.le_trans hsz hb1.size) (fun v' w' h1 h2 h3 => h v' w' (Lib.hid ?_) (Lib.hid ⟨h2, h3⟩))
  refine hst'.grow hp1 h1 ⟨h2.os, h2.tape, h2.output, h2.size, fun j hj => h2.block j (by have := hb1.size; omega) (fun e => by have := (hst'.own.lt j e.symm).1; omega)⟩
theorem Tryz.infoObj : (Tryz.prog.info? 63).map (fun i => (i.zero, i.size, i.bytes)) = some (some (.agg #[.string ⟨#[]⟩, .int .u64 0, .int .i64 0, .int .u32 0, .int .i64 0, .int .u64 0, .slice none 0 0]), 7, 80) := by kernel_rfl
def vObjs (lo : Nat) (xs : List ObjT) (w : World) (v : Value) : Prop := ∃ A c, ∃ ms : List OM, v = .slice A xs.length c ∧ ms.map (·.x) = xs ∧ Lst lo 7 A c ms.length (ms.flatMap omCs) w ∧ (∀ m ∈ ms, ObjOk m.x ∧ Lst lo 1 m.A m.c m.x.nodes.length (m.x.nodes.map iv) w) ∧ xs.length ≤ 1048576
set_option maxRecDepth 100000 in
set_option maxHeartbeats 2000000 in
theorem pg_objs (g : Nat) (A : Option Addr) (n cap : Nat) (bs : List Nat) (p : Nat) (w : World) (hP : Hid (PG g A n cap bs p w)) :
    Calls Tryz.prog 56 #[.pointer (some ⟨g, 0, none⟩), .func (.func 57) #[.pointer (some ⟨g, 0, none⟩)] #[]] w (RetR (rList bs (rObj bs) p) (vObjs w.heap.size) g A n cap bs w) := by
  have HR := Lib.hid (show rList bs (rObj bs) p = (rNum bs).bind (fun n p => if 1048576 < n ∨ bs.length - p < n then none else rTimes (rObj bs) n p) p from rfl)
  have HC := Lib.hid (pg_number g A n cap bs p w hP)
  cases hq : rNum bs p with
  | none =>
    rw [hq] at HC
    rw [Rd.bind_none hq] at HR
    go_enter Tryz.func56, Tryz.ntmps56
    go_wp2_with (go_at_call 42; refine HC.out.mono ?_; rintro e w1 ⟨rfl, hk⟩; have HK := Lib.hid hk; clear hk)
    refine ⟨rfl, ?_⟩
    rw [HR.out]
    exact RetR.none_ HK.out
  | some x =>
    obtain ⟨m, p0⟩ := x
    rw [hq] at HC
    rw [Rd.bind_some hq] at HR
    have hlen := hP.out.len
    have hn9 := hP.out.reach
    rw [hlen] at HR
    by_cases hm : 1048576 < m
    · rw [if_pos (.inl hm)] at HR
      have d1 : decide ((m : Int) > 1048576) = true := decide_eq_true (by omega)
      have d2 : decide (1048576 < m) = true := decide_eq_true hm
      clear hlen hn9 hm
      go_enter Tryz.func56, Tryz.ntmps56
      go_wp2_with (go_at_call 42; refine HC.out.mono ?_; rintro e w1 ⟨v, rfl, ⟨rfl, hx⟩, hp1, hk⟩; have HP1 := Lib.hid hp1; have HK := Lib.hid hk; have c0 := hp1.blk.cell 0; have c1 := hp1.blk.cell 1; clear hp1 hk)
      go_region
      go_wp2
      refine ⟨rfl, ?_⟩
      rw [HR.out]
      exact RetR.none_ (HK.out.trans keep_drew)
    · have d1 : decide ((m : Int) > 1048576) = false := decide_eq_false (by omega)
      have d2 : decide (1048576 < m) = false := decide_eq_false hm
      have hm1 : m ≤ 1048576 := by omega
      clear hm
      have hp0 := rNum_le hP.out.byt hq
      rw [hlen] at hp0
      obtain ⟨d, ed⟩ : ∃ d, n - p0 = d := ⟨_, rfl⟩
      have e1 : IntKind.i64.wrap ((n : Int) - (p0 : Int)) = (d : Int) := by rw [IntKind.wrap_i64]; omega
      have e2 : IntKind.u64.wrap (d : Int) = (d : Int) := by rw [IntKind.wrap_u64]; omega
      have e3 : IntKind.u64.wrap ((n : Int) - (p0 : Int)) = (d : Int) := by rw [IntKind.wrap_u64]; omega
      rw [ed] at HR
      have hdn : d ≤ n := by omega
      clear ed hp0 hlen hn9
      by_cases hm2 : d < m
      · rw [if_pos (.inr hm2)] at HR
        have d3 : decide ((m : Int) > (d : Int)) = true := decide_eq_true (by omega)
        have d4 : decide (d < m) = true := decide_eq_true hm2
        clear hm1 hm2 hdn
        go_enter Tryz.func56, Tryz.ntmps56
        go_wp2_with (go_at_call 42; refine HC.out.mono ?_; rintro e w1 ⟨v, rfl, ⟨rfl, hx⟩, hp1, hk⟩; have HP1 := Lib.hid hp1; have HK := Lib.hid hk; have c0 := hp1.blk.cell 0; have c1 := hp1.blk.cell 1; clear hp1 hk)
        go_region
        go_wp2
        refine ⟨rfl, ?_⟩
        rw [HR.out]
        exact RetR.none_ (HK.out.trans keep_drew)
      · rw [if_neg (by omega)] at HR
        have d3 : decide ((m : Int) > (d : Int)) = false := decide_eq_false (by omega)
        have d4 : decide (d < m) = false := decide_eq_false hm2
        clear hdn hm2
        go_enter Tryz.func56, Tryz.ntmps56
        go_wp2_with (go_at_call 42; refine HC.out.mono ?_; rintro e w1 ⟨v, rfl, ⟨rfl, hx⟩, hp1, hk⟩; have HP1 := Lib.hid hp1; have HK := Lib.hid hk; have c0 := hp1.blk.cell 0; have c1 := hp1.blk.cell 1; clear hp1 hk)
        go_region
        clear c0 c1 e1 e2 e3 d3 d4
        go_wp2
        obtain ⟨w2, ew2⟩ : ∃ w2, w1.drew = w2 := ⟨_, rfl⟩
        have hp2 := HP1.out.drew
        have hk2 : Keep (Not g) w w1.drew := HK.out.trans keep_drew
        rw [ew2] at hp2 hk2 ⊢
        have HP2 := Lib.hid hp2
        have HK2 := Lib.hid hk2
        clear ew2 HP1 HK hp2 hk2 HC
        have hg2 := Lib.hid HP2.out.blk.lt
        have hst0 := Lib.hid (LiR.start 63 7 HP2.out)
        clear hP
        go_loopw [6, 29] (fun vo vi wr => ∃ (k q : Nat) (xs : List OM), k ≤ m ∧ vi = .int .u64 k ∧ Hid (rTimes (rObj bs) k p0 = some (xs.map (·.x), q)) ∧ Hid ((∀ x ∈ xs, ObjOk x.x) ∧ Subs w2.heap.size vo (xs.map fun m => (m.A, m.c, m.x.nodes)) wr) ∧ Hid (LiR g A n cap bs w2 63 7 vo k (xs.flatMap omCs) q wr)) (fun _ vi _ => m - (intOf vi).toNat)
        case atStart => exact ⟨0, p0, [], by omega, rfl, Lib.hid rfl, Lib.hid ⟨fun x hx => (by cases hx), Subs.nil _ _ _⟩, hst0⟩
        case round =>
          obtain ⟨k, q, xs, hk, rfl, hT, hX, hst⟩ := hrel
          clear hst0
          by_cases hlt : k < m
          · have d3 : decide (k < m) = true := decide_eq_true hlt
            have HI := Lib.hid (pg_object g A n cap bs q wr (Lib.hid hst.out.pg))
            cases hx1 : rObj bs q with
            | none =>
              rw [hx1] at HI
              have HN := Lib.hid (rTimes_none (rTimes_end hT.out hx1) (m := m) (by omega))
              go_wp2_with (go_at_call 57; refine HI.out.mono ?_; rintro e w3 ⟨rfl, hk3⟩; have HK3 := Lib.hid hk3; clear hk3)
              refine ⟨rfl, ?_⟩
              rw [HR.out, HN.out]
              exact RetR.none_ ((HK2.out.trans hst.out.kp).trans HK3.out)
            | some y =>
              obtain ⟨x, q'⟩ := y
              rw [hx1] at HI
              have HT1 := Lib.hid (rTimes_more hT.out hx1)
              go_wp2_with (first
                | (go_at_call 57; refine HI.out.mono ?_; rintro e w3 ⟨v, rfl, ⟨A7, c7, rfl, l7, b7⟩, hp3, hk3⟩; unfold objCs; have hst3 := Lib.hid (hst.out.read hg2.out hp3 hk3); have HO7 := Lib.hid b7; have HS3 := Lib.hid (hX.out.2.keep hk3 hg2.out); have HL7 := Lib.hid (show Lst w2.heap.size 1 A7 c7 x.nodes.length (x.nodes.map iv) w3 ∧ Off u6 x.nodes.length A7 from ⟨l7.mono hst.out.kp.size, fun h0 ad e e' => absurd (hst.out.own.lt _ e').2 (Nat.not_lt.2 (l7.lo h0 ad e))⟩); clear hp3 hk3 l7 b7)
                | (at_builtin
                   refine wpl_li3 rfl _ _ 48 _ 80 Tryz.underlying48 Tryz.infoObj rfl (by decide) (by decide) rfl hst3.out HP2.out (by omega) [.string (strOf x.key), .int .u64 (x.version : Int), .int .i64 x.size, .int .u32 (x.sum : Int), .int .i64 x.group, .int .u64 (x.epoch : Int), .slice A7 x.nodes.length c7] rfl (by intro u hu; simp only [List.mem_cons, List.not_mem_nil, or_false] at hu; rcases hu with rfl | rfl | rfl | rfl | rfl | rfl | rfl <;> rfl) rfl rfl ?_
                   intro v4 w4 hst4 hgv4))
              refine ⟨⟨k + 1, q', xs ++ [⟨x, A7, c7⟩], by omega, by go_num, Lib.hid (by rw [List.map_append]; exact HT1.out), Lib.hid ⟨fun y hy => ?_, ?_⟩, ?_⟩, by simp [intOf]; omega⟩
              · rcases List.mem_append.1 hy with h | h
                · exact hX.out.1 y h
                · rw [List.mem_singleton.1 h]; exact HO7.out
              · rw [List.map_append]
                refine Subs.more (v := u6) ⟨fun y hy => ?_⟩ hgv4.out.1 hgv4.out.2
                rcases List.mem_append.1 hy with h | h
                · exact HS3.out.all y h
                · rw [List.mem_singleton.1 h]; exact HL7.out
              · rw [List.flatMap_append]
                exact hst4
          · obtain rfl : k = m := by omega
            go_wp2
            go_ret
            have hl := rTimes_len hT.out
            rw [List.length_map] at hl
            subst hl
            have hml : (xs.map (·.x)).length = xs.length := List.length_map _
            rw [HR.out, hT.out]
            obtain ⟨A1, k1, rfl, hl1⟩ := hst.out.list HK2.out.size
            refine RetR.some_ ⟨A1, k1, xs, (by rw [hml]; rfl), rfl, hl1, fun m hm => ⟨hX.out.1 m hm, ?_⟩, by rw [hml]; exact hm1⟩ hst.out.pg (HK2.out.trans hst.out.kp)
            exact ((hX.out.2.all _ (List.mem_map.2 ⟨m, hm, rfl⟩)).1).mono HK2.out.size
theorem Tryz.infoIntent : (Tryz.prog.info? 65).map (fun i => (i.zero, i.size, i.bytes)) = some (some (.agg #[.string ⟨#[]⟩, .int .u64 0, .int .i64 0, .int .u32 0, .int .i64 0, .int .u64 0, .slice none 0 0, .int .u64 0, .int .u64 0]), 9, 96) := by kernel_rfl
def vIntents (lo : Nat) (xs : List IntT) (w : World) (v : Value) : Prop := ∃ A c, ∃ ms : List IM, v = .slice A xs.length c ∧ ms.map (·.x) = xs ∧ Lst lo 9 A c ms.length (ms.flatMap imCs) w ∧ (∀ m ∈ ms, InteOk m.x ∧ Lst lo 1 m.A m.c m.x.obj.nodes.length (m.x.obj.nodes.map iv) w) ∧ xs.length ≤ 1048576
set_option maxRecDepth 100000 in
set_option maxHeartbeats 2000000 in
theorem pg_intents (g : Nat) (A : Option Addr) (n cap : Nat) (bs : List Nat) (p : Nat) (w : World) (hP : Hid (PG g A n cap bs p w)) :
    Calls Tryz.prog 58 #[.pointer (some ⟨g, 0, none⟩), .func (.func 59) #[.pointer (some ⟨g, 0, none⟩)] #[]] w (RetR (rList bs (rIntent bs) p) (vIntents w.heap.size) g A n cap bs w) := by
  have HR := Lib.hid (show rList bs (rIntent bs) p = (rNum bs).bind (fun n p => if 1048576 < n ∨ bs.length - p < n then none else rTimes (rIntent bs) n p) p from rfl)
  have HC := Lib.hid (pg_number g A n cap bs p w hP)
  cases hq : rNum bs p with
  | none =>
    rw [hq] at HC
    rw [Rd.bind_none hq] at HR
    go_enter Tryz.func58, Tryz.ntmps58
    go_wp2_with (go_at_call 42; refine HC.out.mono ?_; rintro e w1 ⟨rfl, hk⟩; have HK := Lib.hid hk; clear hk)
    refine ⟨rfl, ?_⟩
    rw [HR.out]
    exact RetR.none_ HK.out
  | some x =>
    obtain ⟨m, p0⟩ := x
    rw [hq] at HC
    rw [Rd.bind_some hq] at HR
    have hlen := hP.out.len
    have hn9 := hP.out.reach
    rw [hlen] at HR
    by_cases hm : 1048576 < m
    · rw [if_pos (.inl hm)] at HR
      have d1 : decide ((m : Int) > 1048576) = true := decide_eq_true (by omega)
      have d2 : decide (1048576 < m) = true := decide_eq_true hm
      clear hlen hn9 hm
      go_enter Tryz.func58, Tryz.ntmps58
      go_wp2_with (go_at_call 42; refine HC.out.mono ?_; rintro e w1 ⟨v, rfl, ⟨rfl, hx⟩, hp1, hk⟩; have HP1 := Lib.hid hp1; have HK := Lib.hid hk; have c0 := hp1.blk.cell 0; have c1 := hp1.blk.cell 1; clear hp1 hk)
      go_region
      go_wp2
      refine ⟨rfl, ?_⟩
      rw [HR.out]
      exact RetR.none_ (HK.out.trans keep_drew)
    · have d1 : decide ((m : Int) > 1048576) = false := decide_eq_false (by omega)
      have d2 : decide (1048576 < m) = false := decide_eq_false hm
      have hm1 : m ≤ 1048576 := by omega
      clear hm
      have hp0 := rNum_le hP.out.byt hq
      rw [hlen] at hp0
      obtain ⟨d, ed⟩ : ∃ d, n - p0 = d := ⟨_, rfl⟩
      have e1 : IntKind.i64.wrap ((n : Int) - (p0 : Int)) = (d : Int) := by rw [IntKind.wrap_i64]; omega
      have e2 : IntKind.u64.wrap (d : Int) = (d : Int) := by rw [IntKind.wrap_u64]; omega
      have e3 : IntKind.u64.wrap ((n : Int) - (p0 : Int)) = (d : Int) := by rw [IntKind.wrap_u64]; omega
      rw [ed] at HR
      have hdn : d ≤ n := by omega
      clear ed hp0 hlen hn9
      by_cases hm2 : d < m
      · rw [if_pos (.inr hm2)] at HR
        have d3 : decide ((m : Int) > (d : Int)) = true := decide_eq_true (by omega)
        have d4 : decide (d < m) = true := decide_eq_true hm2
        clear hm1 hm2 hdn
        go_enter Tryz.func58, Tryz.ntmps58
        go_wp2_with (go_at_call 42; refine HC.out.mono ?_; rintro e w1 ⟨v, rfl, ⟨rfl, hx⟩, hp1, hk⟩; have HP1 := Lib.hid hp1; have HK := Lib.hid hk; have c0 := hp1.blk.cell 0; have c1 := hp1.blk.cell 1; clear hp1 hk)
        go_region
        go_wp2
        refine ⟨rfl, ?_⟩
        rw [HR.out]
        exact RetR.none_ (HK.out.trans keep_drew)
      · rw [if_neg (by omega)] at HR
        have d3 : decide ((m : Int) > (d : Int)) = false := decide_eq_false (by omega)
        have d4 : decide (d < m) = false := decide_eq_false hm2
        clear hdn hm2
        go_enter Tryz.func58, Tryz.ntmps58
        go_wp2_with (go_at_call 42; refine HC.out.mono ?_; rintro e w1 ⟨v, rfl, ⟨rfl, hx⟩, hp1, hk⟩; have HP1 := Lib.hid hp1; have HK := Lib.hid hk; have c0 := hp1.blk.cell 0; have c1 := hp1.blk.cell 1; clear hp1 hk)
        go_region
        clear c0 c1 e1 e2 e3 d3 d4
        go_wp2
        obtain ⟨w2, ew2⟩ : ∃ w2, w1.drew = w2 := ⟨_, rfl⟩
        have hp2 := HP1.out.drew
        have hk2 : Keep (Not g) w w1.drew := HK.out.trans keep_drew
        rw [ew2] at hp2 hk2 ⊢
        have HP2 := Lib.hid hp2
        have HK2 := Lib.hid hk2
        clear ew2 HP1 HK hp2 hk2 HC
        have hg2 := Lib.hid HP2.out.blk.lt
        have hst0 := Lib.hid (LiR.start 65 9 HP2.out)
        clear hP
        go_loopw [6, 29] (fun vo vi wr => ∃ (k q : Nat) (xs : List IM), k ≤ m ∧ vi = .int .u64 k ∧ Hid (rTimes (rIntent bs) k p0 = some (xs.map (·.x), q)) ∧ Hid ((∀ x ∈ xs, InteOk x.x) ∧ Subs w2.heap.size vo (xs.map fun m => (m.A, m.c, m.x.obj.nodes)) wr) ∧ Hid (LiR g A n cap bs w2 65 9 vo k (xs.flatMap imCs) q wr)) (fun _ vi _ => m - (intOf vi).toNat)
        case atStart => exact ⟨0, p0, [], by omega, rfl, Lib.hid rfl, Lib.hid ⟨fun x hx => (by cases hx), Subs.nil _ _ _⟩, hst0⟩
        case round =>
          obtain ⟨k, q, xs, hk, rfl, hT, hX, hst⟩ := hrel
          clear hst0
          by_cases hlt : k < m
          · have d3 : decide (k < m) = true := decide_eq_true hlt
            have HI := Lib.hid (pg_intent g A n cap bs q wr (Lib.hid hst.out.pg))
            cases hx1 : rIntent bs q with
            | none =>
              rw [hx1] at HI
              have HN := Lib.hid (rTimes_none (rTimes_end hT.out hx1) (m := m) (by omega))
              go_wp2_with (go_at_call 59; refine HI.out.mono ?_; rintro e w3 ⟨rfl, hk3⟩; have HK3 := Lib.hid hk3; clear hk3)
              refine ⟨rfl, ?_⟩
              rw [HR.out, HN.out]
              exact RetR.none_ ((HK2.out.trans hst.out.kp).trans HK3.out)
            | some y =>
              obtain ⟨x, q'⟩ := y
              rw [hx1] at HI
              have HT1 := Lib.hid (rTimes_more hT.out hx1)
              go_wp2_with (first
                | (go_at_call 59; refine HI.out.mono ?_; rintro e w3 ⟨v, rfl, ⟨A7, c7, rfl, l7, b7⟩, hp3, hk3⟩; unfold intCs; have hst3 := Lib.hid (hst.out.read hg2.out hp3 hk3); have HO7 := Lib.hid b7; have HS3 := Lib.hid (hX.out.2.keep hk3 hg2.out); have HL7 := Lib.hid (show Lst w2.heap.size 1 A7 c7 x.obj.nodes.length (x.obj.nodes.map iv) w3 ∧ Off u6 x.obj.nodes.length A7 from ⟨l7.mono hst.out.kp.size, fun h0 ad e e' => absurd (hst.out.own.lt _ e').2 (Nat.not_lt.2 (l7.lo h0 ad e))⟩); clear hp3 hk3 l7 b7)
                | (at_builtin
                   refine wpl_li3 rfl _ _ 49 _ 96 Tryz.underlying49 Tryz.infoIntent rfl (by decide) (by decide) rfl hst3.out HP2.out (by omega) [.string (strOf x.obj.key), .int .u64 (x.obj.version : Int), .int .i64 x.obj.size, .int .u32 (x.obj.sum : Int), .int .i64 x.obj.group, .int .u64 (x.obj.epoch : Int), .slice A7 x.obj.nodes.length c7, .int .u64 (x.client : Int), .int .u64 (x.seq : Int)] rfl (by intro u hu; simp only [List.mem_cons, List.not_mem_nil, or_false] at hu; rcases hu with rfl | rfl | rfl | rfl | rfl | rfl | rfl | rfl | rfl <;> rfl) rfl rfl ?_
                   intro v4 w4 hst4 hgv4))
              refine ⟨⟨k + 1, q', xs ++ [⟨x, A7, c7⟩], by omega, by go_num, Lib.hid (by rw [List.map_append]; exact HT1.out), Lib.hid ⟨fun y hy => ?_, ?_⟩, ?_⟩, by simp [intOf]; omega⟩
              · rcases List.mem_append.1 hy with h | h
                · exact hX.out.1 y h
                · rw [List.mem_singleton.1 h]; exact HO7.out
              · rw [List.map_append]
                refine Subs.more (v := u6) ⟨fun y hy => ?_⟩ hgv4.out.1 hgv4.out.2
                rcases List.mem_append.1 hy with h | h
                · exact HS3.out.all y h
                · rw [List.mem_singleton.1 h]; exact HL7.out
              · rw [List.flatMap_append]
                exact hst4
          · obtain rfl : k = m := by omega
            go_wp2
            go_ret
            have hl := rTimes_len hT.out
            rw [List.length_map] at hl
            subst hl
            have hml : (xs.map (·.x)).length = xs.length := List.length_map _
            rw [HR.out, hT.out]
            obtain ⟨A1, k1, rfl, hl1⟩ := hst.out.list HK2.out.size
            refine RetR.some_ ⟨A1, k1, xs, (by rw [hml]; rfl), rfl, hl1, fun m hm => ⟨hX.out.1 m hm, ?_⟩, by rw [hml]; exact hm1⟩ hst.out.pg (HK2.out.trans hst.out.kp)
            exact ((hX.out.2.all _ (List.mem_map.2 ⟨m, hm, rfl⟩)).1).mono HK2.out.size
end Go.Proofs.YthgiafjiemiifaaGreat
end
section
namespace Go.Proofs.YthgiafjiemiifaaGreat
open Go.RowKit OctMath
set_option linter.unusedVariables false
theorem Tryz.infoSes : (Tryz.prog.info? 132).map (fun i => (i.zero, i.size, i.bytes)) = some (some (.agg #[.int .u64 0, .int .u64 0, .bool false, .int .u64 0, .int .i64 0]), 5, 40) := by kernel_rfl
def sesL (x : SesT) : List Value := (sesCs x).toList
def vSess (lo : Nat) (xs : List SesT) (w : World) (v : Value) : Prop := ∃ A c, v = .slice A xs.length c ∧ Lst lo 5 A c xs.length (xs.flatMap sesL) w ∧ (∀ x ∈ xs, SesOk x) ∧ xs.length ≤ 1048576
set_option maxRecDepth 100000 in
set_option maxHeartbeats 2000000 in
theorem pg_sessions (g : Nat) (A : Option Addr) (n cap : Nat) (bs : List Nat) (p : Nat) (w : World) (hP : Hid (PG g A n cap bs p w)) :
    Calls Tryz.prog 60 #[.pointer (some ⟨g, 0, none⟩), .func (.func 61) #[.pointer (some ⟨g, 0, none⟩)] #[]] w (RetR (rList bs (rSes bs) p) (vSess w.heap.size) g A n cap bs w) := by
  have HR := Lib.hid (show rList bs (rSes bs) p = (rNum bs).bind (fun n p => if 1048576 < n ∨ bs.length - p < n then none else rTimes (rSes bs) n p) p from rfl)
  have HC := Lib.hid (pg_number g A n cap bs p w hP)
  cases hq : rNum bs p with
  | none =>
    rw [hq] at HC
    rw [Rd.bind_none hq] at HR
    go_enter Tryz.func60, Tryz.ntmps60
    go_wp2_with (go_at_call 42; refine HC.out.mono ?_; rintro e w1 ⟨rfl, hk⟩; have HK := Lib.hid hk; clear hk)
    refine ⟨rfl, ?_⟩
    rw [HR.out]
    exact RetR.none_ HK.out
  | some x =>
    obtain ⟨m, p0⟩ := x
    rw [hq] at HC
    rw [Rd.bind_some hq] at HR
    have hlen := hP.out.len
    have hn9 := hP.out.reach
    rw [hlen] at HR
    by_cases hm : 1048576 < m
    · rw [if_pos (.inl hm)] at HR
      have d1 : decide ((m : Int) > 1048576) = true := decide_eq_true (by omega)
      have d2 : decide (1048576 < m) = true := decide_eq_true hm
      clear hlen hn9 hm
      go_enter Tryz.func60, Tryz.ntmps60
      go_wp2_with (go_at_call 42; refine HC.out.mono ?_; rintro e w1 ⟨v, rfl, ⟨rfl, hx⟩, hp1, hk⟩; have HP1 := Lib.hid hp1; have HK := Lib.hid hk; have c0 := hp1.blk.cell 0; have c1 := hp1.blk.cell 1; clear hp1 hk)
      go_region
      go_wp2
      refine ⟨rfl, ?_⟩
      rw [HR.out]
      exact RetR.none_ (HK.out.trans keep_drew)
    · have d1 : decide ((m : Int) > 1048576) = false := decide_eq_false (by omega)
      have d2 : decide (1048576 < m) = false := decide_eq_false hm
      have hm1 : m ≤ 1048576 := by omega
      clear hm
      have hp0 := rNum_le hP.out.byt hq
      rw [hlen] at hp0
      obtain ⟨d, ed⟩ : ∃ d, n - p0 = d := ⟨_, rfl⟩
      have e1 : IntKind.i64.wrap ((n : Int) - (p0 : Int)) = (d : Int) := by rw [IntKind.wrap_i64]; omega
      have e2 : IntKind.u64.wrap (d : Int) = (d : Int) := by rw [IntKind.wrap_u64]; omega
      have e3 : IntKind.u64.wrap ((n : Int) - (p0 : Int)) = (d : Int) := by rw [IntKind.wrap_u64]; omega
      rw [ed] at HR
      have hdn : d ≤ n := by omega
      clear ed hp0 hlen hn9
      by_cases hm2 : d < m
      · rw [if_pos (.inr hm2)] at HR
        have d3 : decide ((m : Int) > (d : Int)) = true := decide_eq_true (by omega)
        have d4 : decide (d < m) = true := decide_eq_true hm2
        clear hm1 hm2 hdn
        go_enter Tryz.func60, Tryz.ntmps60
        go_wp2_with (go_at_call 42; refine HC.out.mono ?_; rintro e w1 ⟨v, rfl, ⟨rfl, hx⟩, hp1, hk⟩; have HP1 := Lib.hid hp1; have HK := Lib.hid hk; have c0 := hp1.blk.cell 0; have c1 := hp1.blk.cell 1; clear hp1 hk)
        go_region
        go_wp2
        refine ⟨rfl, ?_⟩
        rw [HR.out]
        exact RetR.none_ (HK.out.trans keep_drew)
      · rw [if_neg (by omega)] at HR
        have d3 : decide ((m : Int) > (d : Int)) = false := decide_eq_false (by omega)
        have d4 : decide (d < m) = false := decide_eq_false hm2
        clear hdn hm2
        go_enter Tryz.func60, Tryz.ntmps60
        go_wp2_with (go_at_call 42; refine HC.out.mono ?_; rintro e w1 ⟨v, rfl, ⟨rfl, hx⟩, hp1, hk⟩; have HP1 := Lib.hid hp1; have HK := Lib.hid hk; have c0 := hp1.blk.cell 0; have c1 := hp1.blk.cell 1; clear hp1 hk)
        go_region
        clear c0 c1 e1 e2 e3 d3 d4
        go_wp2
        obtain ⟨w2, ew2⟩ : ∃ w2, w1.drew = w2 := ⟨_, rfl⟩
        have hp2 := HP1.out.drew
        have hk2 : Keep (Not g) w w1.drew := HK.out.trans keep_drew
        rw [ew2] at hp2 hk2 ⊢
        have HP2 := Lib.hid hp2
        have HK2 := Lib.hid hk2
        clear ew2 HP1 HK hp2 hk2 HC
        have hg2 := Lib.hid HP2.out.blk.lt
        have hst0 := Lib.hid (LiR.start 132 5 HP2.out)
        clear hP
        go_loopw [6, 29] (fun vo vi wr => ∃ (k q : Nat) (xs : List SesT), k ≤ m ∧ vi = .int .u64 k ∧ Hid (rTimes (rSes bs) k p0 = some (xs, q)) ∧ Hid (∀ x ∈ xs, SesOk x) ∧ Hid (LiR g A n cap bs w2 132 5 vo k (xs.flatMap sesL) q wr)) (fun _ vi _ => m - (intOf vi).toNat)
        case atStart => exact ⟨0, p0, [], by omega, rfl, Lib.hid rfl, Lib.hid (fun x hx => by cases hx), hst0⟩
        case round =>
          obtain ⟨k, q, xs, hk, rfl, hT, hX, hst⟩ := hrel
          clear hst0
          by_cases hlt : k < m
          · have d3 : decide (k < m) = true := decide_eq_true hlt
            have HI := Lib.hid (pg_session g A n cap bs q wr (Lib.hid hst.out.pg))
            cases hx1 : rSes bs q with
            | none =>
              rw [hx1] at HI
              have HN := Lib.hid (rTimes_none (rTimes_end hT.out hx1) (m := m) (by omega))
              go_wp2_with (go_at_call 61; refine HI.out.mono ?_; rintro e w3 ⟨rfl, hk3⟩; have HK3 := Lib.hid hk3; clear hk3)
              refine ⟨rfl, ?_⟩
              rw [HR.out, HN.out]
              exact RetR.none_ ((HK2.out.trans hst.out.kp).trans HK3.out)
            | some y =>
              obtain ⟨x, q'⟩ := y
              rw [hx1] at HI
              have HT1 := Lib.hid (rTimes_more hT.out hx1)
              go_wp2_with (first
                | (go_at_call 61; refine HI.out.mono ?_; rintro e w3 ⟨v, rfl, ⟨rfl, b7⟩, hp3, hk3⟩; unfold sesCs; have HX1 := Lib.hid b7; have hst3 := Lib.hid (hst.out.read hg2.out hp3 hk3); clear hp3 hk3 b7)
                | (at_builtin
                   refine wpl_li rfl _ _ 50 _ 40 Tryz.underlying50 Tryz.infoSes rfl (by decide) (by decide) rfl hst3.out HP2.out (by omega) [.int .u64 (x.client : Int), .int .u64 (x.seq : Int), .bool x.opn, .int .u64 (x.version : Int), .int .i64 x.code] rfl (by intro u hu; simp only [List.mem_cons, List.not_mem_nil, or_false] at hu; rcases hu with rfl | rfl | rfl | rfl | rfl <;> rfl) rfl rfl ?_
                   intro v4 w4 hst4))
              refine ⟨⟨k + 1, q', xs ++ [x], by omega, by go_num, HT1, Lib.hid (fun y hy => ?_), ?_⟩, by simp [intOf]; omega⟩
              · rcases List.mem_append.1 hy with h | h
                · exact hX.out y h
                · rw [List.mem_singleton.1 h]; exact HX1.out
              · rw [List.flatMap_append]; exact hst4
          · obtain rfl : k = m := by omega
            go_wp2
            go_ret
            rw [HR.out, hT.out]
            have hl := rTimes_len hT.out
            subst hl
            obtain ⟨A1, k1, rfl, hl1⟩ := hst.out.list HK2.out.size
            exact RetR.some_ ⟨A1, k1, rfl, hl1, hX.out, hm1⟩ hst.out.pg (HK2.out.trans hst.out.kp)
end Go.Proofs.YthgiafjiemiifaaGreat
end
