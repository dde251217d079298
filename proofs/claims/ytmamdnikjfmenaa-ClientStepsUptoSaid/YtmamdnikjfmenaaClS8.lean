/-
  A MESSAGE THAT COMES IN: its data and names are read.
-/
import Derived.Test.YtmamdnikjfmenaaClW15
import Derived.Test.YtmamdnikjfmenaaClS7
import Derived.Test.YtmamdnikjfmenaaClB6
import Derived.Test.YtmamdnikjfmenaaUpto
namespace Go.Proofs.Ytmamdnikjfmenaa
open Go.RowKit
open Go.WideShapes Go.ChangeShapes Go.Deep
set_option linter.unusedVariables false
/-- A message's cells, and what its data and names are. -/
def MsgFull (w : World) (ms : Array Value) : Prop :=
  ∃ (kind : Int) (client seq : Nat) (code : Int) (ctx : Nat) (E : Option Addr) (em ec : Nat) (data : List Nat) (G : Option Addr) (gm gc : Nat) (ss : List ByteArray),
    ms.size = 27 ∧ ms[0]? = some (.int .i64 kind) ∧ ms[21]? = some (.int .u64 client) ∧ ms[22]? = some (.int .u64 seq) ∧ ms[25]? = some (.int .i64 code) ∧ ms[7]? = some (.int .u64 ctx) ∧
    ms[20]? = some (.slice E em ec) ∧ Byt data ∧ data.length = em ∧ Reads w w.heap.size 1 E em (data.map bv) ∧ em ≤ 1048576 ∧
    ms[26]? = some (.slice G gm gc) ∧ Reads w w.heap.size 1 G gm (ss.map tv) ∧ gm ≤ 1048576
section
variable {H : Type} {enc : TypeId × Value → H} {w : World} {base : Nat} {sp : Nat → Bool} {held : Bool}
theorem bulk_pos (d : DataW H) : 1 ≤ Rows.uptoBulk d := by
  cases d with
  | lit l => cases l <;> simp [Rows.uptoBulk]
  | _ => simp [Rows.uptoBulk]
theorem bulk_len : ∀ l : List (DataW H), l.length ≤ Rows.uptoBulkAll l
  | [] => by simp [Rows.uptoBulkAll]
  | d :: l => by have := bulk_len l; have := bulk_pos d; simp only [Rows.uptoBulkAll, List.length_cons]; omega
theorem bulk_mem {d : DataW H} : ∀ {l : List (DataW H)}, d ∈ l → Rows.uptoBulk d ≤ Rows.uptoBulkAll l
  | x :: l, h => by
    simp only [Rows.uptoBulkAll]
    rcases List.mem_cons.1 h with rfl | h
    · omega
    · have := bulk_mem h; omega
theorem open_texts2 {P : Program} {t e : TypeId} {fuel : Nat} {v : Value} {x : DataW H × List MemPlace} (ht : P.underlying t = some (.slice e)) (he : P.underlying e = some .string) (hC : P.cellsOf e = 1) 
    (h : DataW.trod enc P w base sp held fuel t [v] = some x) (hsz : Rows.uptoBulk x.1 ≤ 1048576) :
    ∃ G gm gc, ∃ ss : List ByteArray, v = .slice G gm gc ∧ Reads w w.heap.size 1 G gm (ss.map tv) ∧ gm ≤ 1048576 := by
  rcases open_slice ht h with ⟨hcs, hx⟩ | ⟨a, len, cap, m, n, D, Pl, hcs, hb, hl, hm, hmm, hx, hi⟩
  · injection hcs with hcs
    exact ⟨none, 0, 0, [], hcs, Reads.none_, by omega⟩
  · injection hcs with hcs
    have hlm : len ≤ m := by rw [hmm]; split <;> omega
    have hr : len ≤ 1048576 := by
      rw [hx] at hsz
      simp only [Rows.uptoBulk] at hsz
      have h1 := bulk_len ((List.range len).map D)
      simp only [List.length_map, List.length_range] at h1
      omega
    have hcell : ∀ i, i < len → ∃ s : ByteArray, w.cell? (a.add i) = some (.string s) := by
      intro i hi'
      obtain ⟨cs', hc, ht'⟩ := hi i (by omega)
      obtain ⟨s, rfl, -, -⟩ := DataW.trod_string he ht'
      rw [hC, Nat.mul_one] at hc
      obtain ⟨_, _, hat⟩ := World.cells?_some hc
      have := hat 0 (by omega)
      rw [show (a.add i).add 0 = a.add i from by simp [Addr.add]] at this
      exact ⟨s, this⟩
    obtain ⟨ss, h1, h2⟩ : ∃ ss : List ByteArray, ss.length = len ∧ ∀ i (hi : i < ss.length), w.cell? (a.add i) = some (.string ss[i]) := by
      clear hx hsz hi hr h hmm hl hlm hcs
      induction len with
      | zero => exact ⟨[], rfl, fun i hi => absurd hi (by simp)⟩
      | succ len ih =>
        obtain ⟨ns, h1, h2⟩ := ih fun i hi => hcell i (by omega)
        obtain ⟨s, hs⟩ := hcell len (by omega)
        refine ⟨ns ++ [s], by simp [h1], fun i hi => ?_⟩
        by_cases hlt : i < ns.length
        · rw [List.getElem_append_left hlt]; exact h2 i hlt
        · obtain rfl : i = len := by simp at hi; omega
          rw [List.getElem_append_right (by omega)]
          simp [h1, hs]
    refine ⟨some a, len, cap, ss, hcs, ⟨by rw [List.length_map, h1, Nat.mul_one], fun hn => ⟨a, rfl, ?_, fun j u hu => ?_⟩⟩, hr⟩
    · have := World.block_lt_of_cell? _ _ (h2 0 (by omega))
      rwa [block_of_add] at this
    · rw [List.getElem?_map] at hu
      obtain ⟨s, hs, rfl⟩ := Option.map_eq_some_iff.1 hu
      obtain ⟨hj, rfl⟩ := List.getElem?_eq_some_iff.1 hs
      exact h2 j hj
theorem msg_full {fuel : Nat} {cs : List Value} {x : DataW H × List MemPlace} (h : DataW.trod enc Try.prog w base sp held fuel 38 cs = some x)
    (hsz : Rows.uptoBulk x.1 ≤ 1048576) : cs.length = 27 ∧ MsgFull w cs.toArray := by
  obtain ⟨fs, hu, hfs, hk⟩ : ∃ fs : Array Field, Try.prog.underlying 38 = some (.struct fs) ∧ fs.size = 20 ∧ ([0, 7, 13, 14, 15, 18, 19].map fun i => fs[i]?.map fun f => (f.type, f.offset)) =
      [some (22, 0), some (23, 7), some (33, 20), some (23, 21), some (23, 22), some (35, 25), some (36, 26)] := ⟨_, Try.underlying38, by kernel_rfl, by kernel_rfl⟩
  simp only [List.map_cons, List.map_nil, List.cons.injEq, and_true] at hk
  obtain ⟨k0, k1, k2, k3, k4, k5, k6⟩ := hk
  obtain ⟨xs, n, rfl, hx, hlen, hxl, hf⟩ := DataW.trod_struct hu h
  rw [show Try.prog.cellsOf 38 = 27 from by kernel_rfl] at hlen
  rw [hx] at hsz
  simp only [Rows.uptoBulk] at hsz
  clear h hx
  have fld : ∀ (i o : Nat) (t : TypeId), (fs[i]?.map fun f => (f.type, f.offset)) = some (t, o) → Try.prog.cellsOf t = 1 → o < 27 →
      ∃ v y, cs[o]? = some v ∧ DataW.trod enc Try.prog w base sp held n t [v] = some y ∧ Rows.uptoBulk y.1 ≤ 1048576 := by
    intro i o t hi hc ho
    obtain ⟨F, hF, e⟩ := Option.map_eq_some_iff.1 hi
    injection e with e1 e2
    have hil : i < xs.length := by rw [hxl]; exact (Array.getElem?_eq_some_iff.1 hF).1
    have h1 := hf i F hF
    rw [e1, e2, hc] at h1
    have h2 : (cs.drop o).take 1 = [cs[o]'(by omega)] := by rw [List.drop_eq_getElem_cons (by omega)]; rfl
    rw [h2, List.getElem?_eq_getElem hil] at h1
    refine ⟨_, _, List.getElem?_eq_getElem (by omega), h1, ?_⟩
    exact Nat.le_trans (bulk_mem (l := xs.map (fun x => x.1)) (List.mem_map.2 ⟨_, List.getElem_mem hil, rfl⟩)) (by omega)
  obtain ⟨v0, y0, g0, t0, -⟩ := fld 0 0 _ k0 (by kernel_rfl) (by omega)
  obtain ⟨v1, y1, g1, t1, -⟩ := fld 7 7 _ k1 (by kernel_rfl) (by omega)
  obtain ⟨v2, y2, g2, t2, w2⟩ := fld 13 20 _ k2 (by kernel_rfl) (by omega)
  obtain ⟨v3, y3, g3, t3, -⟩ := fld 14 21 _ k3 (by kernel_rfl) (by omega)
  obtain ⟨v4, y4, g4, t4, -⟩ := fld 15 22 _ k4 (by kernel_rfl) (by omega)
  obtain ⟨v5, y5, g5, t5, -⟩ := fld 18 25 _ k5 (by kernel_rfl) (by omega)
  obtain ⟨v6, y6, g6, t6, w6⟩ := fld 19 26 _ k6 (by kernel_rfl) (by omega)
  clear fld hf hsz
  obtain ⟨n0, e0, -, -⟩ := DataW.trod_int Try.underlying22 t0
  obtain ⟨n1, e1, -, b1⟩ := DataW.trod_int Try.underlying23 t1
  obtain ⟨n3, e3, -, b3⟩ := DataW.trod_int Try.underlying23 t3
  obtain ⟨n4, e4, -, b4⟩ := DataW.trod_int Try.underlying23 t4
  obtain ⟨n5, e5, -, -⟩ := DataW.trod_int Try.underlying35 t5
  injection e0 with e0; injection e1 with e1; injection e3 with e3; injection e4 with e4; injection e5 with e5
  subst e0 e1 e3 e4 e5
  have nn : ∀ z : Int, (Lit.int .u64 z).wf = true → ∃ k : Nat, z = (k : Int) := fun z hz => by
    have : 0 ≤ z ∧ z ≤ 18446744073709551615 := by simpa [Lit.wf, IntKind.min, IntKind.max, IntKind.signed, IntKind.bits] using hz
    exact ⟨z.toNat, by omega⟩
  obtain ⟨ctx, rfl⟩ := nn _ b1
  obtain ⟨client, rfl⟩ := nn _ b3
  obtain ⟨seq, rfl⟩ := nn _ b4
  obtain ⟨G, gm, gc, ss, rfl, hG, hG2⟩ := open_texts2 Try.underlying36 Try.underlying9 (by kernel_rfl) t6 w6
  obtain ⟨E, em, ec, rfl⟩ : ∃ E em ec, v2 = .slice E em ec := by
    rcases open_slice Try.underlying33 t2 with ⟨e, -⟩ | ⟨a, len, cap, m, n, D, Pl, e, -⟩ <;> injection e with e <;> exact ⟨_, _, _, e⟩
  have T2 : DataW.Trod enc Try.prog w base sp held 33 (.slice E em ec) y2.1 y2.2 := trod_one rfl t2
  obtain ⟨zs, hzs⟩ := open_in_ints Try.underlying33 Try.underlying5 (by kernel_rfl) T2
  obtain ⟨data, hby, hdl, hd, -, -⟩ := hzs.bytes
  have hr := ints_small Try.underlying33 Try.underlying5 (by kernel_rfl) T2 w2
  have sz : cs.toArray.size = 27 := by simpa using hlen
  have gg : ∀ i : Nat, cs.toArray[i]? = cs[i]? := fun i => by first | rfl | exact List.getElem?_toArray ..
  exact ⟨hlen, n0, client, seq, n5, ctx, E, em, ec, data, G, gm, gc, ss, sz, (gg _).trans g0, (gg _).trans g3, (gg _).trans g4, (gg _).trans g5, (gg _).trans g1, (gg _).trans g2, hby, hdl, hd, by omega, (gg _).trans g6, hG, hG2⟩
set_option maxRecDepth 100000 in
theorem cal_small {r : Reach} {b0 : Nat} {v : Value} {d : DataW H} {p : List MemPlace} (hok : Value.okWide Try.prog w r b0 40 v) (h : DataW.Trod enc Try.prog w base sp held 40 v d p) (hbk : Rows.uptoBulk d ≤ 1048576) :
    ∃ c n N nc m D dc, v = .agg (c.cs n N nc m D dc) ∧ CalIn w c n N nc m D dc ∧ m ≤ 1048576 ∧ c.key.size ≤ 1048576 ∧ n ≤ 1048576 ∧ c.seq < 18446744073709551616 ∧ (-9223372036854775808 ≤ c.kind ∧ c.kind ≤ 9223372036854775807) := by
  obtain ⟨cs, rfl, hsz⟩ := okWide_struct Try.underlying40 hok
  obtain ⟨c0, c1, c2, c3, c4, c5, c6, c7, c8, c9, c10, c11, rfl⟩ := array12 (hsz.trans (by kernel_rfl))
  obtain ⟨fs, hu, hk⟩ : ∃ fs : Array Field, Try.prog.underlying 40 = some (.struct fs) ∧ ((List.range 12).map fun i => fs[i]?.map fun f => (f.type, f.offset)) =
      [some (23, 0), some (25, 1), some (3, 2), some (3, 3), some (23, 4), some (4, 5), some (34, 6), some (9, 7), some (33, 8), some (3, 9), some (3, 10), some (3, 11)] := ⟨_, Try.underlying40, by kernel_rfl⟩
  obtain ⟨fuel, hf⟩ := h
  obtain ⟨xs, n, _, hx, hlen, hxl, hf⟩ := DataW.trod_struct hu hf
  have hxd := congrArg Prod.fst hx
  simp only at hxd
  rw [hxd] at hbk
  simp only [Rows.uptoBulk] at hbk
  have fld : ∀ (i : Nat) (t : TypeId) (v : Value), ((List.range 12).map fun i => fs[i]?.map fun f => (f.type, f.offset))[i]? = some (some (t, i)) → Try.prog.cellsOf t = 1 → ([c0, c1, c2, c3, c4, c5, c6, c7, c8, c9, c10, c11])[i]? = some v →
      ∃ y, DataW.trod enc Try.prog w base sp held n t [v] = some y ∧ Rows.uptoBulk y.1 ≤ 1048576 := by
    intro i t v hi hc hv
    have hi12 : i < 12 := by have := (List.getElem?_eq_some_iff.1 hv).1; simpa using this
    rw [List.getElem?_map, List.getElem?_range hi12] at hi
    injection hi with hi
    obtain ⟨F, hF, e⟩ := Option.map_eq_some_iff.1 hi
    injection e with e1 e2
    have hil : i < xs.length := by rw [hxl]; exact (Array.getElem?_eq_some_iff.1 hF).1
    have h1 := hf i F hF
    rw [e1, e2, hc] at h1
    obtain ⟨hlt, hv'⟩ := List.getElem?_eq_some_iff.1 hv
    have h2 : ((Value.agg #[c0, c1, c2, c3, c4, c5, c6, c7, c8, c9, c10, c11]).cells.toList.drop i).take 1 = [v] := by
      show ((([c0, c1, c2, c3, c4, c5, c6, c7, c8, c9, c10, c11] : List Value)).drop i).take 1 = [v]
      rw [List.drop_eq_getElem_cons hlt, ← hv']; rfl
    rw [h2, List.getElem?_eq_getElem hil] at h1
    exact ⟨_, h1, Nat.le_trans (bulk_mem (l := xs.map (fun x => x.1)) (List.mem_map.2 ⟨_, List.getElem_mem hil, rfl⟩)) (by omega)⟩
  rw [hk] at fld
  obtain ⟨y0, t0, s0⟩ := fld 0 23 c0 rfl (by kernel_rfl) rfl
  obtain ⟨y1, t1, s1⟩ := fld 1 25 c1 rfl (by kernel_rfl) rfl
  obtain ⟨y2, t2, s2⟩ := fld 2 3 c2 rfl (by kernel_rfl) rfl
  obtain ⟨y3, t3, s3⟩ := fld 3 3 c3 rfl (by kernel_rfl) rfl
  obtain ⟨y4, t4, s4⟩ := fld 4 23 c4 rfl (by kernel_rfl) rfl
  obtain ⟨y5, t5, s5⟩ := fld 5 4 c5 rfl (by kernel_rfl) rfl
  obtain ⟨y6, t6, s6⟩ := fld 6 34 c6 rfl (by kernel_rfl) rfl
  obtain ⟨y7, t7, s7⟩ := fld 7 9 c7 rfl (by kernel_rfl) rfl
  obtain ⟨y8, t8, s8⟩ := fld 8 33 c8 rfl (by kernel_rfl) rfl
  obtain ⟨y9, t9, s9⟩ := fld 9 3 c9 rfl (by kernel_rfl) rfl
  obtain ⟨y10, t10, s10⟩ := fld 10 3 c10 rfl (by kernel_rfl) rfl
  obtain ⟨y11, t11, s11⟩ := fld 11 3 c11 rfl (by kernel_rfl) rfl
  obtain ⟨n0, e0, -, b0⟩ := DataW.trod_int Try.underlying23 t0
  injection e0 with e0
  subst e0
  obtain ⟨A1, l1, k1, rfl⟩ := slice_in Try.underlying25 t1
  obtain ⟨n2, e2, -, b2⟩ := DataW.trod_int Try.underlying3 t2
  injection e2 with e2
  subst e2
  obtain ⟨n3, e3, -, b3⟩ := DataW.trod_int Try.underlying3 t3
  injection e3 with e3
  subst e3
  obtain ⟨n4, e4, -, b4⟩ := DataW.trod_int Try.underlying23 t4
  injection e4 with e4
  subst e4
  obtain ⟨n5, e5, -⟩ := DataW.trod_bool Try.underlying4 t5
  injection e5 with e5
  subst e5
  obtain ⟨n6, e6, -, b6⟩ := DataW.trod_int Try.underlying34 t6
  injection e6 with e6
  subst e6
  obtain ⟨n7, e7, x7, -⟩ := DataW.trod_string Try.underlying9 t7
  injection e7 with e7
  subst e7
  obtain ⟨A8, l8, k8, rfl⟩ := slice_in Try.underlying33 t8
  obtain ⟨n9, e9, -, b9⟩ := DataW.trod_int Try.underlying3 t9
  injection e9 with e9
  subst e9
  obtain ⟨n10, e10, -, b10⟩ := DataW.trod_int Try.underlying3 t10
  injection e10 with e10
  subst e10
  obtain ⟨n11, e11, -, b11⟩ := DataW.trod_int Try.underlying3 t11
  injection e11 with e11
  subst e11
  have nn : ∀ z : Int, (Lit.int .u64 z).wf = true → ∃ k : Nat, z = (k : Int) := fun z hz => by
    have : 0 ≤ z ∧ z ≤ 18446744073709551615 := by simpa [Lit.wf, IntKind.min, IntKind.max, IntKind.signed, IntKind.bits] using hz
    exact ⟨z.toNat, by omega⟩
  obtain ⟨client, rfl⟩ := nn _ b0
  obtain ⟨seq, rfl⟩ := nn _ b4
  obtain ⟨zs, hz⟩ := open_in_ints Try.underlying25 Try.underlying3 (by kernel_rfl) (trod_one rfl t1)
  obtain ⟨zd, hd⟩ := open_in_ints Try.underlying33 Try.underlying5 (by kernel_rfl) (trod_one rfl t8)
  obtain ⟨data, hb, hl, hr, h1, h2⟩ := hd.bytes
  have hm := ints_small Try.underlying33 Try.underlying5 (by kernel_rfl) (trod_one rfl t8) s8
  have hn := ints_small Try.underlying25 Try.underlying3 (by kernel_rfl) (trod_one rfl t1) s1
  have hk7 : n7.size ≤ 1048576 := by rw [x7] at s7; exact str_small (H := H) s7
  have hq : (seq : Int) ≤ 18446744073709551615 := by have : 0 ≤ (seq : Int) ∧ (seq : Int) ≤ 18446744073709551615 := by simpa [Lit.wf, IntKind.min, IntKind.max, IntKind.signed, IntKind.bits] using b4
                                                     exact this.2
  have hk6 : -9223372036854775808 ≤ n6 ∧ n6 ≤ 9223372036854775807 := by simpa [Lit.wf, IntKind.min, IntKind.max, IntKind.signed, IntKind.bits] using b6
  exact ⟨⟨client, zs, n2, n3, seq, n5, n6, n7, data, n9, n10, n11⟩, l1, A1, k1, l8, A8, k8, rfl, ⟨hz.2.2.1, hz.1, hz.2.2.2.1, hz.2.2.2.2, hl, hr, h1, h2, hb⟩, hm, hk7, hn, by show seq < _; omega, hk6⟩
end
end Go.Proofs.Ytmamdnikjfmenaa
