/-
  ClientLate holds for every message: what comes late, or of another call, turns nothing.
-/
import Derived.Test.YtmamdnikjfmenaaClW10
namespace Go.Proofs.Ytmamdnikjfmenaa
open Go.RowKit
open Go.WideShapes Go.ChangeShapes
set_option linter.unusedVariables false
def Yes (W : World) (e : Ending) (w' : World) : Prop := e = .returned (.bool true) ∧ Below W.heap.size W w'
theorem wpl_load_blk_g {P : Program} {ops : Array Oper} {rest : List Oper} {op : Oper} {a : Act} {w : World} {Q : Exit → Act → World → Prop} (hgd : Region.wanted op (yielded ops a.tmps) = true) (ty : TypeId) (x : Operand) (ho : op.op = .load ty x)
    (g : Nat) (t : TypeId) (cs : Array Value) (d : TypeDesc) (hx : a.eval x = .pointer (some ⟨g, 0, none⟩)) (hB : Blk w g t cs) (hu : P.underlying ty = some d) (hd : d.isRow = true) (hi : (P.info? ty).map (·.size) = some cs.size)
    (h : wpList P ops Q rest (a.put op.dst (.agg cs)) w) : wpList P ops Q (op :: rest) a w := by
  unfold wpList
  rw [if_pos hgd]
  exact .inl (wp_load_mid ty x ho g 0 hx cs.toList d (fun j v hv => by rw [Nat.zero_add, hB.cell]; simpa using hv) hu hd (by simpa using hi) (by simpa using h))
theorem cell_int {P : Program} {w : World} {r : Reach} {base : Nat} {t : TypeId} {v : Value} {k : IntKind} (ht : P.underlying t = some (.int k)) (h : Cell.okWide P w r base t v) : ∃ n, v = .int k n ∧ k.has n := by
  simp only [ht, Cell.okWide] at h
  cases v <;> simp_all [Cell.ok]
theorem has_low {n : Int} (h : IntKind.u64.has n) : 0 ≤ n := h.1
theorem cell_u64 {P : Program} {w : World} {r : Reach} {base : Nat} {t : TypeId} {v : Value} (ht : P.underlying t = some (.int .u64)) (h : Cell.okWide P w r base t v) : ∃ n, v = .int .u64 n ∧ 0 ≤ n :=
  let ⟨n, e, q⟩ := cell_int ht h
  ⟨n, e, has_low q⟩
theorem cell_i64 {P : Program} {w : World} {r : Reach} {base : Nat} {t : TypeId} {v : Value} (ht : P.underlying t = some (.int .i64)) (h : Cell.okWide P w r base t v) : ∃ n, v = .int .i64 n :=
  let ⟨n, e, _⟩ := cell_int ht h
  ⟨n, e⟩
set_option maxRecDepth 100000 in
/-- A message that comes in: its cells that are looked at. -/
theorem msg_cells {w : World} {base : Nat} {v : Value} (h : Value.okWide Try.prog w .any base 38 v) :
    ∃ (ms : Array Value) (kind : Int) (client seq : Nat) (code : Int), v = .agg ms ∧ ms.size = 27 ∧ ms[0]? = some (.int .i64 kind) ∧ ms[21]? = some (.int .u64 client) ∧ ms[22]? = some (.int .u64 seq) ∧ ms[25]? = some (.int .i64 code) := by
  simp only [Value.okWide, Try.underlying38] at h
  obtain ⟨ms, rfl, hsz, ts, hts, _, hall⟩ := h
  have k0 : Try.prog.cellsOf 38 = 27 := by kernel_rfl
  have k1 : (Try.prog.cellTypes Try.prog.depth 38).map (fun l => (l.length, l[0]?, l[21]?, l[22]?, l[25]?)) = some (27, some 22, some 23, some 23, some 35) := by kernel_rfl
  rw [hts] at k1
  simp only [Option.map_some, Option.some.injEq, Prod.mk.injEq] at k1
  obtain ⟨l0, l1, l2, l3, l4⟩ := k1
  rw [k0] at hsz
  have get : ∀ i, i < 27 → ∃ v, ms[i]? = some v := fun i hi => ⟨_, Array.getElem?_eq_getElem (by omega)⟩
  obtain ⟨v0, g0⟩ := get 0 (by omega)
  obtain ⟨v1, g1⟩ := get 21 (by omega)
  obtain ⟨v2, g2⟩ := get 22 (by omega)
  obtain ⟨v3, g3⟩ := get 25 (by omega)
  obtain ⟨u0, e0, c0⟩ := hall 0 v0 g0
  obtain ⟨u1, e1, c1⟩ := hall 21 v1 g1
  obtain ⟨u2, e2, c2⟩ := hall 22 v2 g2
  obtain ⟨u3, e3, c3⟩ := hall 25 v3 g3
  rw [l0] at e0 e1 e2 e3
  have r0 : u0 = 22 := Option.some.inj (e0.symm.trans l1)
  have r1 : u1 = 23 := Option.some.inj (e1.symm.trans l2)
  have r2 : u2 = 23 := Option.some.inj (e2.symm.trans l3)
  have r3 : u3 = 35 := Option.some.inj (e3.symm.trans l4)
  subst r0 r1 r2 r3
  clear hall hts
  obtain ⟨n0, rfl⟩ := cell_i64 Try.underlying22 c0
  obtain ⟨n1, rfl, p1⟩ := cell_u64 Try.underlying23 c1
  obtain ⟨n2, rfl, p2⟩ := cell_u64 Try.underlying23 c2
  obtain ⟨n3, rfl⟩ := cell_i64 Try.underlying35 c3
  obtain ⟨c, rfl⟩ : ∃ c : Nat, n1 = (c : Int) := ⟨n1.toNat, (Int.toNat_of_nonneg p1).symm⟩
  obtain ⟨s, rfl⟩ : ∃ s : Nat, n2 = (s : Int) := ⟨n2.toNat, (Int.toNat_of_nonneg p2).symm⟩
  exact ⟨ms, n0, c, s, n3, rfl, hsz, g0, g1, g2, g3⟩
def lc0 : Cal := Cal.new 1 [3, 1] 2 9
def lc1 : Cal := lc0.calls 2 ⟨#[97]⟩ []
theorem three_ok : NodesOk [3, 1] 2 := fun i hi => by
  have : i = 0 ∨ i = 1 := by omega
  rcases this with rfl | rfl <;> decide
theorem lm0 : May lc0 := ⟨by decide, by decide, by decide, by decide, by decide, by decide, three_ok, by decide, by decide, by decide, by decide, by decide, by decide, by decide⟩
theorem lm1 : May lc1 := ⟨by decide, by decide, by decide, by decide, by decide, by decide, three_ok, by decide, by decide, by decide, by decide, by decide, by decide, by decide⟩
theorem got_late (ms : Array Value) (kind : Int) (client seq : Nat) (code : Int) (hms : ms.size = 27) (hm0 : ms[0]? = some (.int .i64 kind)) (hm21 : ms[21]? = some (.int .u64 client)) (hm22 : ms[22]? = some (.int .u64 seq)) (hm25 : ms[25]? = some (.int .i64 code)) (ht : client ≠ 1 ∨ seq ≠ 1)
    (n : Nat) (N : Option Addr) (nc m : Nat) (D : Option Addr) (dc : Nat) (w : World) (h : Hid (CalIn w lc1 n N nc m D dc)) :
    Calls Try.prog 10 #[.agg (lc1.cs n N nc m D dc), .agg ms] w (RetQuiet lc1 n N nc m D dc 0 w) := by
  by_cases hk : kind = 17
  · by_cases hc : client = 1
    · exact got_seq lc1 n N nc m D dc ms kind client seq code w h lm1 hms hm0 hm21 hm22 hm25 rfl hk hc (by rcases ht with h | h; exact absurd hc h; exact h)
    · exact got_client lc1 n N nc m D dc ms kind client seq code w h lm1 hms hm0 hm21 hm22 hm25 rfl hk hc
  · exact got_kind lc1 n N nc m D dc ms kind client seq code w h lm1 hms hm0 hm21 hm22 hm25 rfl hk
set_option maxRecDepth 100000 in
set_option maxHeartbeats 4000000 in
theorem late_mine (W : World) (ms : Array Value) (kind : Int) (client seq : Nat) (code : Int) (hms : ms.size = 27) (hm0 : ms[0]? = some (.int .i64 kind)) (hm21 : ms[21]? = some (.int .u64 client)) (hm22 : ms[22]? = some (.int .u64 seq)) (hm25 : ms[25]? = some (.int .i64 code)) (hc : client = 1) (hs : seq = 1) :
    Calls Try.prog 3 #[.agg ms] W (Yes W) := by
  subst hc hs
  have hr := Reads.lit (W.alloc (.cells ms 38)) 3 [.int .i64 3, .int .i64 1] 1 2 rfl
  have e0 : (W.alloc (.cells ms 38)).heap.size = W.heap.size + 1 := by simp
  rw [e0] at hr
  have HR : Hid (Reads ((W.alloc (.cells ms 38)).alloc (.cells #[.int .i64 3, .int .i64 1] 3)) ((W.alloc (.cells ms 38)).alloc (.cells #[.int .i64 3, .int .i64 1] 3)).heap.size 1 (some ⟨W.heap.size + 1, 0, none⟩) 2 (([3, 1] : List Int).map iv)) := Lib.hid (hr.more (by simp))
  clear hr e0
  have HB0 := Lib.hid (((Below.refl W.heap.size W).alloc (Nat.le_refl _) (.cells ms 38)).alloc (by simp) (.cells #[.int .i64 3, .int .i64 1] 3))
  have BM := Lib.hid ((Blk.new W 38 ms).alloc (.cells #[.int .i64 3, .int .i64 1] 3))
  have HMS := Lib.hid hms
  have HM0 := Lib.hid hm0
  have HM21 := Lib.hid hm21
  have HM22 := Lib.hid hm22
  have HM25 := Lib.hid hm25
  clear hms hm0 hm21 hm22 hm25
  have tk1 : True := trivial
  have tk2 : True := trivial
  go_enter Try.func3, Try.ntmps3
  go_wp2_with (first
    | (go_at_call 8; refine (new_yes 1 _ 2 2 [3, 1] 2 9 _ rfl HR (by omega) (by omega) lm0).mono ?_; rintro e w1 ⟨N, nc, rfl, q1, q2, q3, hb⟩; have RN := Lib.hid (Reads.of_own q3); have BM := Lib.hid (BM.out.below hb BM.out.lt); have SW := Lib.hid (show W.heap.size + 2 ≤ w1.heap.size from by have := hb.size; simp at this; omega); have BB := Lib.hid (HB0.out.trans (hb.mono (by simp; omega))); clear q3 hb)
    | (refine wpl_store_blk rfl 40 (.tmp 3) (.tmp 17) rfl w1.heap.size 40 (#[.int .u64 0, .slice none 0 0, .int .i64 0, .int .i64 0, .int .u64 0, .bool false, .int .i64 0, .string ⟨#[]⟩, .slice none 0 0, .int .i64 0, .int .i64 0, .int .i64 0]) (lc0.cs 2 N nc 0 none 0) rfl rfl (Blk.new _ _ _) rfl Try.sizeC rfl ?_; intro w2 hB hO; have B3 := hB; have BM := Lib.hid (hO.out.blk (BM.out.alloc _) (by have := SW.out; omega)); have NB := Lib.hid (((Below.refl w1.heap.size w1).alloc (Nat.le_refl _) (.cells #[.int .u64 0, .slice none 0 0, .int .i64 0, .int .i64 0, .int .u64 0, .bool false, .int .i64 0, .string ⟨#[]⟩, .slice none 0 0, .int .i64 0, .int .i64 0, .int .i64 0] 40)).trans (hO.out.below (Nat.le_refl _))); have SZ2 := Lib.hid (show w2.heap.size = w1.heap.size + 1 from by rw [hO.out.size]; simp); have y21 := (BM.out.cell 21).trans HM21.out; have y22 := (BM.out.cell 22).trans HM22.out; clear hB hO)
    | (go_at_call 9; refine (heads_true _).mono ?_; rintro e w14 ⟨rfl, hb⟩; have NB := Lib.hid (NB.out.trans (hb.mono (by have := SZ2.out; omega))); clear hb))
  go_ret
  exact ⟨rfl, BB.out.trans (NB.out.mono BB.out.size)⟩
set_option maxRecDepth 100000 in
set_option maxHeartbeats 4000000 in
theorem late_far (W : World) (ms : Array Value) (kind : Int) (client seq : Nat) (code : Int) (hms : ms.size = 27) (hm0 : ms[0]? = some (.int .i64 kind)) (hm21 : ms[21]? = some (.int .u64 client)) (hm22 : ms[22]? = some (.int .u64 seq)) (hm25 : ms[25]? = some (.int .i64 code)) (hc : client ≠ 1) :
    Calls Try.prog 3 #[.agg ms] W (Yes W) := by
  have ht : client ≠ 1 ∨ seq ≠ 1 := .inl hc
  have e1 : ((client : Int) == 1) = false := by simp; omega
  clear hc
  have HT := Lib.hid ht
  clear ht
  have hr := Reads.lit (W.alloc (.cells ms 38)) 3 [.int .i64 3, .int .i64 1] 1 2 rfl
  have e0 : (W.alloc (.cells ms 38)).heap.size = W.heap.size + 1 := by simp
  rw [e0] at hr
  have HR : Hid (Reads ((W.alloc (.cells ms 38)).alloc (.cells #[.int .i64 3, .int .i64 1] 3)) ((W.alloc (.cells ms 38)).alloc (.cells #[.int .i64 3, .int .i64 1] 3)).heap.size 1 (some ⟨W.heap.size + 1, 0, none⟩) 2 (([3, 1] : List Int).map iv)) := Lib.hid (hr.more (by simp))
  clear hr e0
  have HB0 := Lib.hid (((Below.refl W.heap.size W).alloc (Nat.le_refl _) (.cells ms 38)).alloc (by simp) (.cells #[.int .i64 3, .int .i64 1] 3))
  have BM := Lib.hid ((Blk.new W 38 ms).alloc (.cells #[.int .i64 3, .int .i64 1] 3))
  have HMS := Lib.hid hms
  have HM0 := Lib.hid hm0
  have HM21 := Lib.hid hm21
  have HM22 := Lib.hid hm22
  have HM25 := Lib.hid hm25
  clear hms hm0 hm21 hm22 hm25
  have tk1 : True := trivial
  have tk2 : True := trivial
  go_enter Try.func3, Try.ntmps3
  go_wp2_with (first
    | (go_at_call 8; refine (new_yes 1 _ 2 2 [3, 1] 2 9 _ rfl HR (by omega) (by omega) lm0).mono ?_; rintro e w1 ⟨N, nc, rfl, q1, q2, q3, hb⟩; have RN := Lib.hid (Reads.of_own q3); have BM := Lib.hid (BM.out.below hb BM.out.lt); have SW := Lib.hid (show W.heap.size + 2 ≤ w1.heap.size from by have := hb.size; simp at this; omega); have BB := Lib.hid (HB0.out.trans (hb.mono (by simp; omega))); clear q3 hb)
    | (refine wpl_store_blk rfl 40 (.tmp 3) (.tmp 17) rfl w1.heap.size 40 (#[.int .u64 0, .slice none 0 0, .int .i64 0, .int .i64 0, .int .u64 0, .bool false, .int .i64 0, .string ⟨#[]⟩, .slice none 0 0, .int .i64 0, .int .i64 0, .int .i64 0]) (lc0.cs 2 N nc 0 none 0) rfl rfl (Blk.new _ _ _) rfl Try.sizeC rfl ?_; intro w2 hB hO; have B3 := hB; have BM := Lib.hid (hO.out.blk (BM.out.alloc _) (by have := SW.out; omega)); have NB := Lib.hid (((Below.refl w1.heap.size w1).alloc (Nat.le_refl _) (.cells #[.int .u64 0, .slice none 0 0, .int .i64 0, .int .i64 0, .int .u64 0, .bool false, .int .i64 0, .string ⟨#[]⟩, .slice none 0 0, .int .i64 0, .int .i64 0, .int .i64 0] 40)).trans (hO.out.below (Nat.le_refl _))); have SZ2 := Lib.hid (show w2.heap.size = w1.heap.size + 1 from by rw [hO.out.size]; simp); have y21 := (BM.out.cell 21).trans HM21.out; have y22 := (BM.out.cell 22).trans HM22.out; clear hB hO)
    | (refine wpl_load_blk rfl 40 (.tmp 3) rfl w1.heap.size 40 _ _ rfl B3.out Try.underlying40 rfl Try.sizeC ?_)
    | (refine wpl_load_blk rfl 38 (.tmp 1) rfl W.heap.size 38 _ _ rfl BM.out Try.underlying38 rfl (Try.sizeM.trans (congrArg some HMS.out.symm)) ?_)
    | (go_at_call 10; have _t := tk1; have cin := Lib.hid (calin_empty (c := lc0) (D := none) (dc := 0) rfl rfl (RN.out.below NB.out) q1 q2 (by unfold maxLen; omega)); refine (got_shut lc0 2 N nc 0 none 0 ms kind client seq code _ cin lm0 HMS.out HM0.out HM21.out HM22.out HM25.out rfl).mono ?_; rintro e w3 ⟨rfl, hb⟩; clear y21 y22; have BM := Lib.hid (BM.out.below hb BM.out.lt); have B3 := Lib.hid (B3.out.below hb B3.out.lt); have NB := Lib.hid (NB.out.trans (hb.mono (by have := SW.out; have := SZ2.out; omega))); have SZ3 := Lib.hid (show w1.heap.size + 1 ≤ w3.heap.size from by have := hb.size; have := SZ2.out; omega); clear hb cin tk1 _t)
    | (refine wpl_store_blk rfl 40 (.tmp 5) (.tmp 40) rfl w3.heap.size 40 (#[.int .u64 0, .slice none 0 0, .int .i64 0, .int .i64 0, .int .u64 0, .bool false, .int .i64 0, .string ⟨#[]⟩, .slice none 0 0, .int .i64 0, .int .i64 0, .int .i64 0]) (lc0.cs 2 N nc 0 none 0) rfl rfl ((Blk.new _ _ _).alloc _) rfl Try.sizeC rfl ?_; intro w4 hB hO; have B5 := hB; have BM := Lib.hid (hO.out.blk ((BM.out.alloc _).alloc _) (by have := SW.out; have := SZ3.out; omega)); have B3 := Lib.hid (hO.out.blk ((B3.out.alloc _).alloc _) (by have := SW.out; have := SZ3.out; omega)); have Z7 := Lib.hid (hO.out.blk (blk_second w3 _ _ _) (by omega)); have NB := Lib.hid (((NB.out.alloc (by have := SW.out; have := SZ3.out; omega) (.cells #[.int .u64 0, .slice none 0 0, .int .i64 0, .int .i64 0, .int .u64 0, .bool false, .int .i64 0, .string ⟨#[]⟩, .slice none 0 0, .int .i64 0, .int .i64 0, .int .i64 0] 40)).alloc (by simp; have := SW.out; have := SZ3.out; omega) (.cells (ansZ 0) 47)).trans (hO.out.below (by have := SW.out; have := SZ3.out; omega))); have SZ4 := Lib.hid (show w4.heap.size = w3.heap.size + 2 from by rw [hO.out.size]; simp); clear hB hO)
    | (refine wpl_store_blk rfl 47 (.tmp 7) (.tmp 42) rfl (w3.heap.size + 1) 47 (ansZ 0) (ansZ 0) rfl rfl (Z7.out) rfl Try.sizeA rfl ?_; intro w5 hB hO; have B7 := hB; have BM := Lib.hid (hO.out.blk (BM.out) (by have := SW.out; have := SZ3.out; omega)); have B3 := Lib.hid (hO.out.blk (B3.out) (by have := SW.out; have := SZ3.out; omega)); have B5 := Lib.hid (hO.out.blk (B5.out) (by have := SW.out; have := SZ3.out; omega)); have NB := Lib.hid (NB.out.trans (hO.out.below (by have := SW.out; have := SZ3.out; omega))); have SZ5 := Lib.hid (show w5.heap.size = w3.heap.size + 2 from by rw [hO.out.size]; exact SZ4.out); clear hB hO)
    | (go_at_call 11; have cin := Lib.hid (calin_empty (c := lc0) (D := none) (dc := 0) rfl rfl (RN.out.below NB.out) q1 q2 (by unfold maxLen; omega)); refine (call_yes lc0 2 N nc 0 none 0 2 ⟨#[97]⟩ none 0 0 [] _ cin lm0 rfl rfl (Lib.hid Reads.none_) (fun x hx => by cases hx) (by omega) callable_get).mono ?_; rintro e w6 ⟨m, F, fc, u, rfl, hm, f1, f2, f3, ⟨um, U, uc, rfl, u1, u2, u3, u4⟩, hb⟩; obtain rfl : m = 0 := hm.symm; have BM := Lib.hid (BM.out.below hb BM.out.lt); have B3 := Lib.hid (B3.out.below hb B3.out.lt); have B5 := Lib.hid (B5.out.below hb B5.out.lt); have B7 := Lib.hid (B7.out.below hb B7.out.lt); have NB := Lib.hid (NB.out.trans (hb.mono (by have := SW.out; have := SZ3.out; have := SZ5.out; omega))); have SZ6 := Lib.hid (show w3.heap.size + 2 ≤ w6.heap.size from by have := hb.size; have := SZ5.out; omega); clear hm f3 u4 hb cin)
    | (refine wpl_store_blk rfl 40 (.tmp 8) (.tmp 46) rfl w6.heap.size 40 (#[.int .u64 0, .slice none 0 0, .int .i64 0, .int .i64 0, .int .u64 0, .bool false, .int .i64 0, .string ⟨#[]⟩, .slice none 0 0, .int .i64 0, .int .i64 0, .int .i64 0]) (lc1.cs 2 N nc 0 F fc) rfl rfl ((Blk.new _ _ _).alloc _) rfl Try.sizeC rfl ?_; intro w7 hB hO; have B8 := hB; have BM := Lib.hid (hO.out.blk ((BM.out.alloc _).alloc _) (by have := SW.out; have := SZ3.out; have := SZ6.out; omega)); have B3 := Lib.hid (hO.out.blk ((B3.out.alloc _).alloc _) (by have := SW.out; have := SZ3.out; have := SZ6.out; omega)); have B5 := Lib.hid (hO.out.blk ((B5.out.alloc _).alloc _) (by have := SW.out; have := SZ3.out; have := SZ6.out; omega)); have B7 := Lib.hid (hO.out.blk ((B7.out.alloc _).alloc _) (by have := SW.out; have := SZ3.out; have := SZ6.out; omega)); have Z9 := Lib.hid (hO.out.blk (blk_second w6 _ _ _) (by omega)); have NB := Lib.hid (((NB.out.alloc (by have := SW.out; have := SZ3.out; have := SZ6.out; omega) (.cells #[.int .u64 0, .slice none 0 0, .int .i64 0, .int .i64 0, .int .u64 0, .bool false, .int .i64 0, .string ⟨#[]⟩, .slice none 0 0, .int .i64 0, .int .i64 0, .int .i64 0] 40)).alloc (by simp; have := SW.out; have := SZ3.out; have := SZ6.out; omega) (.cells msgZ 38)).trans (hO.out.below (by have := SW.out; have := SZ3.out; have := SZ6.out; omega))); have SZ7 := Lib.hid (show w7.heap.size = w6.heap.size + 2 from by rw [hO.out.size]; simp); clear hB hO)
    | (refine wpl_store_blk rfl 38 (.tmp 9) (.tmp 47) rfl (w6.heap.size + 1) 38 (msgZ) (askCs lc1 lc1.to um U uc) rfl rfl (Z9.out) rfl Try.sizeM rfl ?_; intro w8 hB hO; have BM := Lib.hid (hO.out.blk (BM.out) (by have := SW.out; have := SZ3.out; have := SZ6.out; omega)); have B3 := Lib.hid (hO.out.blk (B3.out) (by have := SW.out; have := SZ3.out; have := SZ6.out; omega)); have B5 := Lib.hid (hO.out.blk (B5.out) (by have := SW.out; have := SZ3.out; have := SZ6.out; omega)); have B7 := Lib.hid (hO.out.blk (B7.out) (by have := SW.out; have := SZ3.out; have := SZ6.out; omega)); have B8 := Lib.hid (hO.out.blk (B8.out) (by have := SW.out; have := SZ3.out; have := SZ6.out; omega)); have NB := Lib.hid (NB.out.trans (hO.out.below (by have := SW.out; have := SZ3.out; have := SZ6.out; omega))); have SZ8 := Lib.hid (show w8.heap.size = w6.heap.size + 2 from by rw [hO.out.size]; exact SZ7.out); clear hB hO)
    | (refine wpl_load_blk rfl 40 (.tmp 8) rfl w6.heap.size 40 _ _ rfl B8.out Try.underlying40 rfl Try.sizeC ?_)
    | (go_at_call 10; have cin := Lib.hid (calin_empty (c := lc1) (D := F) (dc := fc) rfl rfl (RN.out.below NB.out) q1 q2 f2); refine (got_late ms kind client seq code HMS.out HM0.out HM21.out HM22.out HM25.out HT.out 2 N nc 0 F fc _ cin).mono ?_; rintro e w9 ⟨rfl, hb⟩; have B3 := Lib.hid (B3.out.below hb B3.out.lt); have B5 := Lib.hid (B5.out.below hb B5.out.lt); have B7 := Lib.hid (B7.out.below hb B7.out.lt); have B8 := Lib.hid (B8.out.below hb B8.out.lt); have NB := Lib.hid (NB.out.trans (hb.mono (by have := SW.out; have := SZ3.out; have := SZ6.out; have := SZ8.out; omega))); have SZ9 := Lib.hid (show w6.heap.size + 2 ≤ w9.heap.size from by have := hb.size; have := SZ8.out; omega); clear hb cin)
    | (refine wpl_store_blk rfl 40 (.tmp 11) (.tmp 53) rfl w9.heap.size 40 (#[.int .u64 0, .slice none 0 0, .int .i64 0, .int .i64 0, .int .u64 0, .bool false, .int .i64 0, .string ⟨#[]⟩, .slice none 0 0, .int .i64 0, .int .i64 0, .int .i64 0]) (lc1.cs 2 N nc 0 F fc) rfl rfl ((Blk.new _ _ _).alloc _) rfl Try.sizeC rfl ?_; intro w10 hB hO; have B11 := hB; have B3 := Lib.hid (hO.out.blk ((B3.out.alloc _).alloc _) (by have := SW.out; have := SZ3.out; have := SZ6.out; have := SZ9.out; omega)); have B5 := Lib.hid (hO.out.blk ((B5.out.alloc _).alloc _) (by have := SW.out; have := SZ3.out; have := SZ6.out; have := SZ9.out; omega)); have B7 := Lib.hid (hO.out.blk ((B7.out.alloc _).alloc _) (by have := SW.out; have := SZ3.out; have := SZ6.out; have := SZ9.out; omega)); have B8 := Lib.hid (hO.out.blk ((B8.out.alloc _).alloc _) (by have := SW.out; have := SZ3.out; have := SZ6.out; have := SZ9.out; omega)); have Z13 := Lib.hid (hO.out.blk (blk_second w9 _ _ _) (by omega)); have NB := Lib.hid (((NB.out.alloc (by have := SW.out; have := SZ3.out; have := SZ6.out; have := SZ9.out; omega) (.cells #[.int .u64 0, .slice none 0 0, .int .i64 0, .int .i64 0, .int .u64 0, .bool false, .int .i64 0, .string ⟨#[]⟩, .slice none 0 0, .int .i64 0, .int .i64 0, .int .i64 0] 40)).alloc (by simp; have := SW.out; have := SZ3.out; have := SZ6.out; have := SZ9.out; omega) (.cells (ansZ 0) 47)).trans (hO.out.below (by have := SW.out; have := SZ3.out; have := SZ6.out; have := SZ9.out; omega))); have SZ10 := Lib.hid (show w10.heap.size = w9.heap.size + 2 from by rw [hO.out.size]; simp); clear hB hO)
    | (refine wpl_store_blk rfl 47 (.tmp 13) (.tmp 55) rfl (w9.heap.size + 1) 47 (ansZ 0) (ansZ 0) rfl rfl (Z13.out) rfl Try.sizeA rfl ?_; intro w11 hB hO; have B13 := hB; have B3 := Lib.hid (hO.out.blk (B3.out) (by have := SW.out; have := SZ3.out; have := SZ6.out; have := SZ9.out; omega)); have B5 := Lib.hid (hO.out.blk (B5.out) (by have := SW.out; have := SZ3.out; have := SZ6.out; have := SZ9.out; omega)); have B7 := Lib.hid (hO.out.blk (B7.out) (by have := SW.out; have := SZ3.out; have := SZ6.out; have := SZ9.out; omega)); have B8 := Lib.hid (hO.out.blk (B8.out) (by have := SW.out; have := SZ3.out; have := SZ6.out; have := SZ9.out; omega)); have B11 := Lib.hid (hO.out.blk (B11.out) (by have := SW.out; have := SZ3.out; have := SZ6.out; have := SZ9.out; omega)); have NB := Lib.hid (NB.out.trans (hO.out.below (by have := SW.out; have := SZ3.out; have := SZ6.out; have := SZ9.out; omega))); have SZ11 := Lib.hid (show w11.heap.size = w9.heap.size + 2 from by rw [hO.out.size]; exact SZ10.out); clear hB hO)
    | (refine wpl_load_blk_g ?_ 40 (.tmp 5) ?_ w3.heap.size 40 _ _ ?_ B5.out Try.underlying40 rfl Try.sizeC ?_; rfl; rfl; rfl)
    | (refine wpl_load_blk_g ?_ 40 (.tmp 3) ?_ w1.heap.size 40 _ _ ?_ B3.out Try.underlying40 rfl Try.sizeC ?_; rfl; rfl; rfl)
    | (go_at_call 12; have _t := tk2; have cin := Lib.hid (calin_empty (c := lc0) (D := none) (dc := 0) rfl rfl (RN.out.below NB.out) q1 q2 (by unfold maxLen; omega)); refine (cal_same lc0 2 N nc 0 none 0 N nc none 0 _ cin cin).mono ?_; rintro e w12 ⟨rfl, hb⟩; have B7 := Lib.hid (B7.out.below hb B7.out.lt); have B8 := Lib.hid (B8.out.below hb B8.out.lt); have B11 := Lib.hid (B11.out.below hb B11.out.lt); have B13 := Lib.hid (B13.out.below hb B13.out.lt); have NB := Lib.hid (NB.out.trans (hb.mono (by have := SW.out; have := SZ3.out; have := SZ6.out; have := SZ9.out; have := SZ11.out; omega))); have SZ12 := Lib.hid (show w9.heap.size + 2 ≤ w12.heap.size from by have := hb.size; have := SZ11.out; omega); clear hb cin tk2 _t)
    | (refine wpl_load_blk_g ?_ 40 (.tmp 11) ?_ w9.heap.size 40 _ _ ?_ B11.out Try.underlying40 rfl Try.sizeC ?_; rfl; rfl; rfl)
    | (refine wpl_load_blk_g ?_ 40 (.tmp 8) ?_ w6.heap.size 40 _ _ ?_ B8.out Try.underlying40 rfl Try.sizeC ?_; rfl; rfl; rfl)
    | (go_at_call 12; have cin := Lib.hid (calin_empty (c := lc1) (D := F) (dc := fc) rfl rfl (RN.out.below NB.out) q1 q2 f2); refine (cal_same lc1 2 N nc 0 F fc N nc F fc _ cin cin).mono ?_; rintro e w13 ⟨rfl, hb⟩; have B7 := Lib.hid (B7.out.below hb B7.out.lt); have B13 := Lib.hid (B13.out.below hb B13.out.lt); have NB := Lib.hid (NB.out.trans (hb.mono (by have := SW.out; have := SZ3.out; have := SZ6.out; have := SZ9.out; have := SZ12.out; omega))); have a0 : w13.cell? ⟨w3.heap.size + 1, 0, none⟩ = some (.int .i64 0) := B7.out.cell 0; have a1 : w13.cell? ⟨w9.heap.size + 1, 0, none⟩ = some (.int .i64 0) := B13.out.cell 0; have SZ13 := Lib.hid (Nat.le_trans SZ12.out hb.size); clear hb cin)
    | (go_at_call 9; refine (heads_true _).mono ?_; rintro e w14 ⟨rfl, hb⟩; have NB := Lib.hid (NB.out.trans (hb.mono (by have := SZ3.out; have := SZ13.out; have := SZ6.out; have := SZ9.out; omega))); clear hb))
  go_ret
  exact ⟨rfl, BB.out.trans (NB.out.mono BB.out.size)⟩
set_option maxRecDepth 100000 in
set_option maxHeartbeats 4000000 in
theorem late_old (W : World) (ms : Array Value) (kind : Int) (client seq : Nat) (code : Int) (hms : ms.size = 27) (hm0 : ms[0]? = some (.int .i64 kind)) (hm21 : ms[21]? = some (.int .u64 client)) (hm22 : ms[22]? = some (.int .u64 seq)) (hm25 : ms[25]? = some (.int .i64 code)) (hc : client = 1) (hs : seq ≠ 1) :
    Calls Try.prog 3 #[.agg ms] W (Yes W) := by
  have ht : client ≠ 1 ∨ seq ≠ 1 := .inr hs
  have e1 : ((seq : Int) == 1) = false := by simp; omega
  clear hs
  have HT := Lib.hid ht
  clear ht
  subst hc
  have hr := Reads.lit (W.alloc (.cells ms 38)) 3 [.int .i64 3, .int .i64 1] 1 2 rfl
  have e0 : (W.alloc (.cells ms 38)).heap.size = W.heap.size + 1 := by simp
  rw [e0] at hr
  have HR : Hid (Reads ((W.alloc (.cells ms 38)).alloc (.cells #[.int .i64 3, .int .i64 1] 3)) ((W.alloc (.cells ms 38)).alloc (.cells #[.int .i64 3, .int .i64 1] 3)).heap.size 1 (some ⟨W.heap.size + 1, 0, none⟩) 2 (([3, 1] : List Int).map iv)) := Lib.hid (hr.more (by simp))
  clear hr e0
  have HB0 := Lib.hid (((Below.refl W.heap.size W).alloc (Nat.le_refl _) (.cells ms 38)).alloc (by simp) (.cells #[.int .i64 3, .int .i64 1] 3))
  have BM := Lib.hid ((Blk.new W 38 ms).alloc (.cells #[.int .i64 3, .int .i64 1] 3))
  have HMS := Lib.hid hms
  have HM0 := Lib.hid hm0
  have HM21 := Lib.hid hm21
  have HM22 := Lib.hid hm22
  have HM25 := Lib.hid hm25
  clear hms hm0 hm21 hm22 hm25
  have tk1 : True := trivial
  have tk2 : True := trivial
  go_enter Try.func3, Try.ntmps3
  go_wp2_with (first
    | (go_at_call 8; refine (new_yes 1 _ 2 2 [3, 1] 2 9 _ rfl HR (by omega) (by omega) lm0).mono ?_; rintro e w1 ⟨N, nc, rfl, q1, q2, q3, hb⟩; have RN := Lib.hid (Reads.of_own q3); have BM := Lib.hid (BM.out.below hb BM.out.lt); have SW := Lib.hid (show W.heap.size + 2 ≤ w1.heap.size from by have := hb.size; simp at this; omega); have BB := Lib.hid (HB0.out.trans (hb.mono (by simp; omega))); clear q3 hb)
    | (refine wpl_store_blk rfl 40 (.tmp 3) (.tmp 17) rfl w1.heap.size 40 (#[.int .u64 0, .slice none 0 0, .int .i64 0, .int .i64 0, .int .u64 0, .bool false, .int .i64 0, .string ⟨#[]⟩, .slice none 0 0, .int .i64 0, .int .i64 0, .int .i64 0]) (lc0.cs 2 N nc 0 none 0) rfl rfl (Blk.new _ _ _) rfl Try.sizeC rfl ?_; intro w2 hB hO; have B3 := hB; have BM := Lib.hid (hO.out.blk (BM.out.alloc _) (by have := SW.out; omega)); have NB := Lib.hid (((Below.refl w1.heap.size w1).alloc (Nat.le_refl _) (.cells #[.int .u64 0, .slice none 0 0, .int .i64 0, .int .i64 0, .int .u64 0, .bool false, .int .i64 0, .string ⟨#[]⟩, .slice none 0 0, .int .i64 0, .int .i64 0, .int .i64 0] 40)).trans (hO.out.below (Nat.le_refl _))); have SZ2 := Lib.hid (show w2.heap.size = w1.heap.size + 1 from by rw [hO.out.size]; simp); have y21 := (BM.out.cell 21).trans HM21.out; have y22 := (BM.out.cell 22).trans HM22.out; clear hB hO)
    | (refine wpl_load_blk rfl 40 (.tmp 3) rfl w1.heap.size 40 _ _ rfl B3.out Try.underlying40 rfl Try.sizeC ?_)
    | (refine wpl_load_blk rfl 38 (.tmp 1) rfl W.heap.size 38 _ _ rfl BM.out Try.underlying38 rfl (Try.sizeM.trans (congrArg some HMS.out.symm)) ?_)
    | (go_at_call 10; have _t := tk1; have cin := Lib.hid (calin_empty (c := lc0) (D := none) (dc := 0) rfl rfl (RN.out.below NB.out) q1 q2 (by unfold maxLen; omega)); refine (got_shut lc0 2 N nc 0 none 0 ms kind 1 seq code _ cin lm0 HMS.out HM0.out HM21.out HM22.out HM25.out rfl).mono ?_; rintro e w3 ⟨rfl, hb⟩; clear y21 y22; have BM := Lib.hid (BM.out.below hb BM.out.lt); have B3 := Lib.hid (B3.out.below hb B3.out.lt); have NB := Lib.hid (NB.out.trans (hb.mono (by have := SW.out; have := SZ2.out; omega))); have SZ3 := Lib.hid (show w1.heap.size + 1 ≤ w3.heap.size from by have := hb.size; have := SZ2.out; omega); clear hb cin tk1 _t)
    | (refine wpl_store_blk rfl 40 (.tmp 5) (.tmp 40) rfl w3.heap.size 40 (#[.int .u64 0, .slice none 0 0, .int .i64 0, .int .i64 0, .int .u64 0, .bool false, .int .i64 0, .string ⟨#[]⟩, .slice none 0 0, .int .i64 0, .int .i64 0, .int .i64 0]) (lc0.cs 2 N nc 0 none 0) rfl rfl ((Blk.new _ _ _).alloc _) rfl Try.sizeC rfl ?_; intro w4 hB hO; have B5 := hB; have BM := Lib.hid (hO.out.blk ((BM.out.alloc _).alloc _) (by have := SW.out; have := SZ3.out; omega)); have B3 := Lib.hid (hO.out.blk ((B3.out.alloc _).alloc _) (by have := SW.out; have := SZ3.out; omega)); have Z7 := Lib.hid (hO.out.blk (blk_second w3 _ _ _) (by omega)); have NB := Lib.hid (((NB.out.alloc (by have := SW.out; have := SZ3.out; omega) (.cells #[.int .u64 0, .slice none 0 0, .int .i64 0, .int .i64 0, .int .u64 0, .bool false, .int .i64 0, .string ⟨#[]⟩, .slice none 0 0, .int .i64 0, .int .i64 0, .int .i64 0] 40)).alloc (by simp; have := SW.out; have := SZ3.out; omega) (.cells (ansZ 0) 47)).trans (hO.out.below (by have := SW.out; have := SZ3.out; omega))); have SZ4 := Lib.hid (show w4.heap.size = w3.heap.size + 2 from by rw [hO.out.size]; simp); clear hB hO)
    | (refine wpl_store_blk rfl 47 (.tmp 7) (.tmp 42) rfl (w3.heap.size + 1) 47 (ansZ 0) (ansZ 0) rfl rfl (Z7.out) rfl Try.sizeA rfl ?_; intro w5 hB hO; have B7 := hB; have BM := Lib.hid (hO.out.blk (BM.out) (by have := SW.out; have := SZ3.out; omega)); have B3 := Lib.hid (hO.out.blk (B3.out) (by have := SW.out; have := SZ3.out; omega)); have B5 := Lib.hid (hO.out.blk (B5.out) (by have := SW.out; have := SZ3.out; omega)); have NB := Lib.hid (NB.out.trans (hO.out.below (by have := SW.out; have := SZ3.out; omega))); have SZ5 := Lib.hid (show w5.heap.size = w3.heap.size + 2 from by rw [hO.out.size]; exact SZ4.out); clear hB hO)
    | (go_at_call 11; have cin := Lib.hid (calin_empty (c := lc0) (D := none) (dc := 0) rfl rfl (RN.out.below NB.out) q1 q2 (by unfold maxLen; omega)); refine (call_yes lc0 2 N nc 0 none 0 2 ⟨#[97]⟩ none 0 0 [] _ cin lm0 rfl rfl (Lib.hid Reads.none_) (fun x hx => by cases hx) (by omega) callable_get).mono ?_; rintro e w6 ⟨m, F, fc, u, rfl, hm, f1, f2, f3, ⟨um, U, uc, rfl, u1, u2, u3, u4⟩, hb⟩; obtain rfl : m = 0 := hm.symm; have BM := Lib.hid (BM.out.below hb BM.out.lt); have B3 := Lib.hid (B3.out.below hb B3.out.lt); have B5 := Lib.hid (B5.out.below hb B5.out.lt); have B7 := Lib.hid (B7.out.below hb B7.out.lt); have NB := Lib.hid (NB.out.trans (hb.mono (by have := SW.out; have := SZ3.out; have := SZ5.out; omega))); have SZ6 := Lib.hid (show w3.heap.size + 2 ≤ w6.heap.size from by have := hb.size; have := SZ5.out; omega); clear hm f3 u4 hb cin)
    | (refine wpl_store_blk rfl 40 (.tmp 8) (.tmp 46) rfl w6.heap.size 40 (#[.int .u64 0, .slice none 0 0, .int .i64 0, .int .i64 0, .int .u64 0, .bool false, .int .i64 0, .string ⟨#[]⟩, .slice none 0 0, .int .i64 0, .int .i64 0, .int .i64 0]) (lc1.cs 2 N nc 0 F fc) rfl rfl ((Blk.new _ _ _).alloc _) rfl Try.sizeC rfl ?_; intro w7 hB hO; have B8 := hB; have BM := Lib.hid (hO.out.blk ((BM.out.alloc _).alloc _) (by have := SW.out; have := SZ3.out; have := SZ6.out; omega)); have B3 := Lib.hid (hO.out.blk ((B3.out.alloc _).alloc _) (by have := SW.out; have := SZ3.out; have := SZ6.out; omega)); have B5 := Lib.hid (hO.out.blk ((B5.out.alloc _).alloc _) (by have := SW.out; have := SZ3.out; have := SZ6.out; omega)); have B7 := Lib.hid (hO.out.blk ((B7.out.alloc _).alloc _) (by have := SW.out; have := SZ3.out; have := SZ6.out; omega)); have Z9 := Lib.hid (hO.out.blk (blk_second w6 _ _ _) (by omega)); have NB := Lib.hid (((NB.out.alloc (by have := SW.out; have := SZ3.out; have := SZ6.out; omega) (.cells #[.int .u64 0, .slice none 0 0, .int .i64 0, .int .i64 0, .int .u64 0, .bool false, .int .i64 0, .string ⟨#[]⟩, .slice none 0 0, .int .i64 0, .int .i64 0, .int .i64 0] 40)).alloc (by simp; have := SW.out; have := SZ3.out; have := SZ6.out; omega) (.cells msgZ 38)).trans (hO.out.below (by have := SW.out; have := SZ3.out; have := SZ6.out; omega))); have SZ7 := Lib.hid (show w7.heap.size = w6.heap.size + 2 from by rw [hO.out.size]; simp); clear hB hO)
    | (refine wpl_store_blk rfl 38 (.tmp 9) (.tmp 47) rfl (w6.heap.size + 1) 38 (msgZ) (askCs lc1 lc1.to um U uc) rfl rfl (Z9.out) rfl Try.sizeM rfl ?_; intro w8 hB hO; have BM := Lib.hid (hO.out.blk (BM.out) (by have := SW.out; have := SZ3.out; have := SZ6.out; omega)); have B3 := Lib.hid (hO.out.blk (B3.out) (by have := SW.out; have := SZ3.out; have := SZ6.out; omega)); have B5 := Lib.hid (hO.out.blk (B5.out) (by have := SW.out; have := SZ3.out; have := SZ6.out; omega)); have B7 := Lib.hid (hO.out.blk (B7.out) (by have := SW.out; have := SZ3.out; have := SZ6.out; omega)); have B8 := Lib.hid (hO.out.blk (B8.out) (by have := SW.out; have := SZ3.out; have := SZ6.out; omega)); have NB := Lib.hid (NB.out.trans (hO.out.below (by have := SW.out; have := SZ3.out; have := SZ6.out; omega))); have SZ8 := Lib.hid (show w8.heap.size = w6.heap.size + 2 from by rw [hO.out.size]; exact SZ7.out); clear hB hO)
    | (refine wpl_load_blk rfl 40 (.tmp 8) rfl w6.heap.size 40 _ _ rfl B8.out Try.underlying40 rfl Try.sizeC ?_)
    | (go_at_call 10; have cin := Lib.hid (calin_empty (c := lc1) (D := F) (dc := fc) rfl rfl (RN.out.below NB.out) q1 q2 f2); refine (got_late ms kind 1 seq code HMS.out HM0.out HM21.out HM22.out HM25.out HT.out 2 N nc 0 F fc _ cin).mono ?_; rintro e w9 ⟨rfl, hb⟩; have B3 := Lib.hid (B3.out.below hb B3.out.lt); have B5 := Lib.hid (B5.out.below hb B5.out.lt); have B7 := Lib.hid (B7.out.below hb B7.out.lt); have B8 := Lib.hid (B8.out.below hb B8.out.lt); have NB := Lib.hid (NB.out.trans (hb.mono (by have := SW.out; have := SZ3.out; have := SZ6.out; have := SZ8.out; omega))); have SZ9 := Lib.hid (show w6.heap.size + 2 ≤ w9.heap.size from by have := hb.size; have := SZ8.out; omega); clear hb cin)
    | (refine wpl_store_blk rfl 40 (.tmp 11) (.tmp 53) rfl w9.heap.size 40 (#[.int .u64 0, .slice none 0 0, .int .i64 0, .int .i64 0, .int .u64 0, .bool false, .int .i64 0, .string ⟨#[]⟩, .slice none 0 0, .int .i64 0, .int .i64 0, .int .i64 0]) (lc1.cs 2 N nc 0 F fc) rfl rfl ((Blk.new _ _ _).alloc _) rfl Try.sizeC rfl ?_; intro w10 hB hO; have B11 := hB; have B3 := Lib.hid (hO.out.blk ((B3.out.alloc _).alloc _) (by have := SW.out; have := SZ3.out; have := SZ6.out; have := SZ9.out; omega)); have B5 := Lib.hid (hO.out.blk ((B5.out.alloc _).alloc _) (by have := SW.out; have := SZ3.out; have := SZ6.out; have := SZ9.out; omega)); have B7 := Lib.hid (hO.out.blk ((B7.out.alloc _).alloc _) (by have := SW.out; have := SZ3.out; have := SZ6.out; have := SZ9.out; omega)); have B8 := Lib.hid (hO.out.blk ((B8.out.alloc _).alloc _) (by have := SW.out; have := SZ3.out; have := SZ6.out; have := SZ9.out; omega)); have Z13 := Lib.hid (hO.out.blk (blk_second w9 _ _ _) (by omega)); have NB := Lib.hid (((NB.out.alloc (by have := SW.out; have := SZ3.out; have := SZ6.out; have := SZ9.out; omega) (.cells #[.int .u64 0, .slice none 0 0, .int .i64 0, .int .i64 0, .int .u64 0, .bool false, .int .i64 0, .string ⟨#[]⟩, .slice none 0 0, .int .i64 0, .int .i64 0, .int .i64 0] 40)).alloc (by simp; have := SW.out; have := SZ3.out; have := SZ6.out; have := SZ9.out; omega) (.cells (ansZ 0) 47)).trans (hO.out.below (by have := SW.out; have := SZ3.out; have := SZ6.out; have := SZ9.out; omega))); have SZ10 := Lib.hid (show w10.heap.size = w9.heap.size + 2 from by rw [hO.out.size]; simp); clear hB hO)
    | (refine wpl_store_blk rfl 47 (.tmp 13) (.tmp 55) rfl (w9.heap.size + 1) 47 (ansZ 0) (ansZ 0) rfl rfl (Z13.out) rfl Try.sizeA rfl ?_; intro w11 hB hO; have B13 := hB; have B3 := Lib.hid (hO.out.blk (B3.out) (by have := SW.out; have := SZ3.out; have := SZ6.out; have := SZ9.out; omega)); have B5 := Lib.hid (hO.out.blk (B5.out) (by have := SW.out; have := SZ3.out; have := SZ6.out; have := SZ9.out; omega)); have B7 := Lib.hid (hO.out.blk (B7.out) (by have := SW.out; have := SZ3.out; have := SZ6.out; have := SZ9.out; omega)); have B8 := Lib.hid (hO.out.blk (B8.out) (by have := SW.out; have := SZ3.out; have := SZ6.out; have := SZ9.out; omega)); have B11 := Lib.hid (hO.out.blk (B11.out) (by have := SW.out; have := SZ3.out; have := SZ6.out; have := SZ9.out; omega)); have NB := Lib.hid (NB.out.trans (hO.out.below (by have := SW.out; have := SZ3.out; have := SZ6.out; have := SZ9.out; omega))); have SZ11 := Lib.hid (show w11.heap.size = w9.heap.size + 2 from by rw [hO.out.size]; exact SZ10.out); clear hB hO)
    | (refine wpl_load_blk_g ?_ 40 (.tmp 5) ?_ w3.heap.size 40 _ _ ?_ B5.out Try.underlying40 rfl Try.sizeC ?_; rfl; rfl; rfl)
    | (refine wpl_load_blk_g ?_ 40 (.tmp 3) ?_ w1.heap.size 40 _ _ ?_ B3.out Try.underlying40 rfl Try.sizeC ?_; rfl; rfl; rfl)
    | (go_at_call 12; have _t := tk2; have cin := Lib.hid (calin_empty (c := lc0) (D := none) (dc := 0) rfl rfl (RN.out.below NB.out) q1 q2 (by unfold maxLen; omega)); refine (cal_same lc0 2 N nc 0 none 0 N nc none 0 _ cin cin).mono ?_; rintro e w12 ⟨rfl, hb⟩; have B7 := Lib.hid (B7.out.below hb B7.out.lt); have B8 := Lib.hid (B8.out.below hb B8.out.lt); have B11 := Lib.hid (B11.out.below hb B11.out.lt); have B13 := Lib.hid (B13.out.below hb B13.out.lt); have NB := Lib.hid (NB.out.trans (hb.mono (by have := SW.out; have := SZ3.out; have := SZ6.out; have := SZ9.out; have := SZ11.out; omega))); have SZ12 := Lib.hid (show w9.heap.size + 2 ≤ w12.heap.size from by have := hb.size; have := SZ11.out; omega); clear hb cin tk2 _t)
    | (refine wpl_load_blk_g ?_ 40 (.tmp 11) ?_ w9.heap.size 40 _ _ ?_ B11.out Try.underlying40 rfl Try.sizeC ?_; rfl; rfl; rfl)
    | (refine wpl_load_blk_g ?_ 40 (.tmp 8) ?_ w6.heap.size 40 _ _ ?_ B8.out Try.underlying40 rfl Try.sizeC ?_; rfl; rfl; rfl)
    | (go_at_call 12; have cin := Lib.hid (calin_empty (c := lc1) (D := F) (dc := fc) rfl rfl (RN.out.below NB.out) q1 q2 f2); refine (cal_same lc1 2 N nc 0 F fc N nc F fc _ cin cin).mono ?_; rintro e w13 ⟨rfl, hb⟩; have B7 := Lib.hid (B7.out.below hb B7.out.lt); have B13 := Lib.hid (B13.out.below hb B13.out.lt); have NB := Lib.hid (NB.out.trans (hb.mono (by have := SW.out; have := SZ3.out; have := SZ6.out; have := SZ9.out; have := SZ12.out; omega))); have a0 : w13.cell? ⟨w3.heap.size + 1, 0, none⟩ = some (.int .i64 0) := B7.out.cell 0; have a1 : w13.cell? ⟨w9.heap.size + 1, 0, none⟩ = some (.int .i64 0) := B13.out.cell 0; have SZ13 := Lib.hid (Nat.le_trans SZ12.out hb.size); clear hb cin)
    | (go_at_call 9; refine (heads_true _).mono ?_; rintro e w14 ⟨rfl, hb⟩; have NB := Lib.hid (NB.out.trans (hb.mono (by have := SZ3.out; have := SZ13.out; have := SZ6.out; have := SZ9.out; omega))); clear hb))
  go_ret
  exact ⟨rfl, BB.out.trans (NB.out.mono BB.out.size)⟩


end Go.Proofs.Ytmamdnikjfmenaa
