/-
  MESSAGES THAT COME IN BY A ROW: each is there as a whole, its data and names are read.
-/
import Derived.Test.YtmamdnikjfmenaaLib
import Derived.Deep.Slices
namespace Go.Proofs.Ytmamdnikjfmenaa
open Go.RowKit
open Go.WideShapes Go.ChangeShapes Go.Deep
set_option linter.unusedVariables false
/-- A message's cells, and what its data and names are. -/
def MsgIn (w : World) (ms : Array Value) (kind : Int) : Prop :=
  ∃ (client seq : Nat) (code : Int) (ctx : Nat) (E : Option Addr) (em ec : Nat) (data : List Nat) (G : Option Addr) (gm gc : Nat) (names : List Value),
    ms.size = 27 ∧ ms[0]? = some (.int .i64 kind) ∧ ms[21]? = some (.int .u64 client) ∧ ms[22]? = some (.int .u64 seq) ∧ ms[25]? = some (.int .i64 code) ∧ ms[7]? = some (.int .u64 ctx) ∧
    ms[20]? = some (.slice E em ec) ∧ Reads w w.heap.size 1 E em (data.map bv) ∧ em ≤ 140737488351232 ∧
    ms[26]? = some (.slice G gm gc) ∧ Reads w w.heap.size 1 G gm names ∧ (∀ u ∈ names, u.oneCell' = true) ∧ gm * 16 ≤ 140737488351232
theorem MsgIn.later {w w' : World} {ms : Array Value} {kind : Int} (h : MsgIn w ms kind) (hb : Below w.heap.size w w') : MsgIn w' ms kind := by
  obtain ⟨client, seq, code, ctx, E, em, ec, data, G, gm, gc, names, h1, h2, h3, h4, h5, h6, h7, h8, h9, h10, h11, h12, h13⟩ := h
  exact ⟨client, seq, code, ctx, E, em, ec, data, G, gm, gc, names, h1, h2, h3, h4, h5, h6, h7, h8.later hb, h9, h10, h11.later hb, h12, h13⟩
theorem MsgIn.size {w : World} {ms : Array Value} {kind : Int} (h : MsgIn w ms kind) : ms.size = 27 := by
  obtain ⟨client, seq, code, ctx, E, em, ec, data, G, gm, gc, names, h1, -⟩ := h
  exact h1
theorem MsgIn.kind {w : World} {ms : Array Value} {kind : Int} (h : MsgIn w ms kind) : ms[0]? = some (.int .i64 kind) := by
  obtain ⟨client, seq, code, ctx, E, em, ec, data, G, gm, gc, names, h1, h2, -⟩ := h
  exact h2
section
variable {H : Type} {enc : TypeId × Value → H} {w : World} {base : Nat} {sp : Nat → Bool} {held : Bool}
theorem weights_mem_all {P : Program} {e : TypeId} : ∀ {ds : List (DataW H)} {d : DataW H}, d ∈ ds → ∀ n ∈ d.weights P e, n ∈ DataW.weightsAll P e ds
  | d0 :: ds, d, hd, n, hn => by
    simp only [DataW.weightsAll, List.mem_append]
    rcases List.mem_cons.1 hd with rfl | hd
    · exact .inl hn
    · exact .inr (weights_mem_all hd n hn)
/-- A slice of texts: its cells. -/
theorem open_texts {P : Program} {t e : TypeId} {fuel : Nat} {v : Value} {x : DataW H × List MemPlace} (ht : P.underlying t = some (.slice e)) (he : P.underlying e = some .string) (hC : P.cellsOf e = 1) (hby : P.bytesOf e = 16)
    (h : DataW.trod enc P w base sp held fuel t [v] = some x) (hsz : (x.1.weights P t).all (· ≤ reachBytes) = true) :
    ∃ G gm gc names, v = .slice G gm gc ∧ Reads w w.heap.size 1 G gm names ∧ (∀ u ∈ names, u.oneCell' = true) ∧ gm * 16 ≤ 140737488351232 := by
  rcases open_slice ht h with ⟨hcs, hx⟩ | ⟨a, len, cap, m, n, D, Pl, hcs, hb, hl, hm, hmm, hx, hi⟩
  · injection hcs with hcs
    exact ⟨none, 0, 0, [], hcs, Reads.none_, (fun u hu => by cases hu), by omega⟩
  · injection hcs with hcs
    have hlm : len ≤ m := by rw [hmm]; split <;> omega
    have hr : len * 16 ≤ 140737488351232 := by
      have h1 := List.all_eq_true.1 hsz (m * 16) (by rw [hx]; simp only [DataW.weights, ht, hby]; refine List.mem_cons.2 (.inl ?_); simp; omega)
      have h2 : m * 16 ≤ reachBytes := by simpa using h1
      unfold reachBytes at h2
      omega
    have hcell : ∀ i, i < len → ∃ s : ByteArray, w.cell? (a.add i) = some (.string s) := by
      intro i hi'
      obtain ⟨cs', hc, ht'⟩ := hi i (by omega)
      obtain ⟨s, rfl, -, -⟩ := DataW.trod_string he ht'
      rw [hC, Nat.mul_one] at hc
      obtain ⟨_, _, hat⟩ := World.cells?_some hc
      have := hat 0 (by omega)
      rw [show (a.add i).add 0 = a.add i from by simp [Addr.add]] at this
      exact ⟨s, this⟩
    obtain ⟨names, h1, h2⟩ : ∃ names : List Value, names.length = len ∧ ∀ i (hi : i < names.length), w.cell? (a.add i) = some names[i] ∧ names[i].oneCell' = true := by
      clear hx hsz hi hr h hmm hl hlm hcs
      induction len with
      | zero => exact ⟨[], rfl, fun i hi => absurd hi (by simp)⟩
      | succ len ih =>
        obtain ⟨ns, h1, h2⟩ := ih fun i hi => hcell i (by omega)
        obtain ⟨s, hs⟩ := hcell len (by omega)
        refine ⟨ns ++ [.string s], by simp [h1], fun i hi => ?_⟩
        by_cases hlt : i < ns.length
        · rw [List.getElem_append_left hlt]; exact h2 i hlt
        · obtain rfl : i = len := by simp at hi; omega
          rw [List.getElem_append_right (by omega)]
          simp [h1, hs, Value.oneCell']
    refine ⟨some a, len, cap, names, hcs, ⟨by rw [h1, Nat.mul_one], fun hn => ⟨a, rfl, ?_, fun j u hu => ?_⟩⟩, fun u hu => ?_, hr⟩
    · have := World.block_lt_of_cell? _ _ (h2 0 (by omega)).1
      rwa [block_of_add] at this
    · obtain ⟨hj, rfl⟩ := List.getElem?_eq_some_iff.1 hu
      exact (h2 j hj).1
    · obtain ⟨j, hj, rfl⟩ := List.mem_iff_getElem.1 hu
      exact (h2 j hj).2
theorem trod_one {P : Program} {t : TypeId} {v : Value} {fuel : Nat} {x : DataW H × List MemPlace} (hv : v.cells.toList = [v]) (h : DataW.trod enc P w base sp held fuel t [v] = some x) : DataW.Trod enc P w base sp held t v x.1 x.2 := ⟨fuel, by rw [hv]; exact h⟩
set_option maxRecDepth 100000 in
/-- A message that comes in. -/
theorem msg_in {fuel : Nat} {cs : List Value} {x : DataW H × List MemPlace} (h : DataW.trod enc Try.prog w base sp held fuel 38 cs = some x)
    (hsz : (x.1.weights Try.prog 38).all (· ≤ reachBytes) = true) : cs.length = 27 ∧ ∃ kind, MsgIn w cs.toArray kind := by
  obtain ⟨fs, hu, hfs, hk⟩ : ∃ fs : Array Field, Try.prog.underlying 38 = some (.struct fs) ∧ fs.size = 20 ∧ ([0, 7, 13, 14, 15, 18, 19].map fun i => fs[i]?.map fun f => (f.type, f.offset)) =
      [some (22, 0), some (23, 7), some (33, 20), some (23, 21), some (23, 22), some (35, 25), some (36, 26)] := ⟨_, Try.underlying38, by kernel_rfl, by kernel_rfl⟩
  simp only [List.map_cons, List.map_nil, List.cons.injEq, and_true] at hk
  obtain ⟨k0, k1, k2, k3, k4, k5, k6⟩ := hk
  obtain ⟨xs, n, rfl, hx, hlen, hxl, hf⟩ := DataW.trod_struct hu h
  rw [show Try.prog.cellsOf 38 = 27 from by kernel_rfl] at hlen
  rw [hx] at hsz
  simp only [DataW.weights, hu] at hsz
  clear h hx
  have fld : ∀ (i o : Nat) (t : TypeId), (fs[i]?.map fun f => (f.type, f.offset)) = some (t, o) → Try.prog.cellsOf t = 1 → o < 27 →
      ∃ v y, cs[o]? = some v ∧ DataW.trod enc Try.prog w base sp held n t [v] = some y ∧ (y.1.weights Try.prog t).all (· ≤ reachBytes) = true := by
    intro i o t hi hc ho
    obtain ⟨F, hF, e⟩ := Option.map_eq_some_iff.1 hi
    injection e with e1 e2
    have hil : i < xs.length := by rw [hxl]; exact (Array.getElem?_eq_some_iff.1 hF).1
    have h1 := hf i F hF
    rw [e1, e2, hc] at h1
    have h2 : (cs.drop o).take 1 = [cs[o]'(by omega)] := by rw [List.drop_eq_getElem_cons (by omega)]; rfl
    rw [h2, List.getElem?_eq_getElem hil] at h1
    refine ⟨_, _, List.getElem?_eq_getElem (by omega), h1, ?_⟩
    refine List.all_eq_true.2 fun k hk => List.all_eq_true.1 hsz k (DataW.weights_mem_each (j := i) (t := t) (d := (xs[i]'hil).1) ?_ ?_ k hk)
    · rw [List.getElem?_map, Array.getElem?_toList, hF]; exact congrArg some e1
    · rw [List.getElem?_map, List.getElem?_eq_getElem hil]; rfl
  obtain ⟨v0, y0, g0, t0, -⟩ := fld 0 0 _ k0 (by kernel_rfl) (by omega)
  obtain ⟨v1, y1, g1, t1, -⟩ := fld 7 7 _ k1 (by kernel_rfl) (by omega)
  obtain ⟨v2, y2, g2, t2, w2⟩ := fld 13 20 _ k2 (by kernel_rfl) (by omega)
  obtain ⟨v3, y3, g3, t3, -⟩ := fld 14 21 _ k3 (by kernel_rfl) (by omega)
  obtain ⟨v4, y4, g4, t4, -⟩ := fld 15 22 _ k4 (by kernel_rfl) (by omega)
  obtain ⟨v5, y5, g5, t5, -⟩ := fld 18 25 _ k5 (by kernel_rfl) (by omega)
  obtain ⟨v6, y6, g6, t6, w6⟩ := fld 19 26 _ k6 (by kernel_rfl) (by omega)
  clear fld hf hsz
  obtain ⟨n0, e0, -, -⟩ := DataW.trod_int Try.underlying22 t0
  obtain ⟨n1, e1, -, b1⟩ := DataW.trod_int Try.underlying23 t1
  obtain ⟨n3, e3, -, b3⟩ := DataW.trod_int Try.underlying23 t3
  obtain ⟨n4, e4, -, b4⟩ := DataW.trod_int Try.underlying23 t4
  obtain ⟨n5, e5, -, -⟩ := DataW.trod_int Try.underlying35 t5
  injection e0 with e0; injection e1 with e1; injection e3 with e3; injection e4 with e4; injection e5 with e5
  subst e0 e1 e3 e4 e5
  have nn : ∀ z : Int, (Lit.int .u64 z).wf = true → ∃ k : Nat, z = (k : Int) := fun z hz => by
    have : 0 ≤ z ∧ z ≤ 18446744073709551615 := by simpa [Lit.wf, IntKind.min, IntKind.max, IntKind.signed, IntKind.bits] using hz
    exact ⟨z.toNat, by omega⟩
  obtain ⟨ctx, rfl⟩ := nn _ b1
  obtain ⟨client, rfl⟩ := nn _ b3
  obtain ⟨seq, rfl⟩ := nn _ b4
  obtain ⟨G, gm, gc, names, rfl, hG, hG1, hG2⟩ := open_texts Try.underlying36 Try.underlying9 (by kernel_rfl) (by kernel_rfl) t6 w6
  obtain ⟨E, em, ec, rfl⟩ : ∃ E em ec, v2 = .slice E em ec := by
    rcases open_slice Try.underlying33 t2 with ⟨e, -⟩ | ⟨a, len, cap, m, n, D, Pl, e, -⟩ <;> injection e with e <;> exact ⟨_, _, _, e⟩
  have T2 : DataW.Trod enc Try.prog w base sp held 33 (.slice E em ec) y2.1 y2.2 := trod_one rfl t2
  obtain ⟨zs, hzs⟩ := open_in_ints Try.underlying33 Try.underlying5 (by kernel_rfl) T2
  obtain ⟨data, -, -, hd, -, -⟩ := hzs.bytes
  have hr := ints_reach (b := 1) Try.underlying33 Try.underlying5 (by kernel_rfl) T2 (fun el sr hd => by
    have h1 := List.all_eq_true.1 w2 ((el.length + sr.length) * 1) (by rw [hd]; simp only [DataW.weights, Try.underlying33, show Try.prog.bytesOf 5 = 1 from by kernel_rfl]; exact List.mem_cons_self)
    simpa using h1)
  have sz : cs.toArray.size = 27 := by simpa using hlen
  have gg : ∀ i : Nat, cs.toArray[i]? = cs[i]? := fun i => by first | rfl | exact List.getElem?_toArray ..
  exact ⟨hlen, n0, client, seq, n5, ctx, E, em, ec, data, G, gm, gc, names, sz, (gg _).trans g0, (gg _).trans g3, (gg _).trans g4, (gg _).trans g5, (gg _).trans g1, (gg _).trans g2, hd, by omega, (gg _).trans g6, hG, hG1, hG2⟩
/-- Message i of a row, in a world. -/
def MsgAt (w w' : World) (A : Option Addr) (i : Nat) : Prop := ∃ ad ms kind, A = some ad ∧ ad.block < w.heap.size ∧ MsgIn w ms kind ∧ ∀ j v, ms[j]? = some v → w'.cell? ((ad.add (i * 27)).add j) = some v
theorem MsgAt.later {w w' w'' : World} {A : Option Addr} {i : Nat} (h : MsgAt w w' A i) (hb : Below w.heap.size w' w'') : MsgAt w w'' A i := by
  obtain ⟨ad, ms, kind, e, h1, h2, h3⟩ := h
  exact ⟨ad, ms, kind, e, h1, h2, fun j v hv => (hb.cell (p := (ad.add (i * 27)).add j) (by rw [block_of_add, block_of_add]; exact h1)).trans (h3 j v hv)⟩
/-- A row of messages that comes in. -/
theorem open_msgs {v : Value} {d : DataW H} {p : List MemPlace} (hv : v.cells.toList = [v]) (h : DataW.Trod enc Try.prog w base sp held 45 v d p) (hsz : (d.weights Try.prog 45).all (· ≤ reachBytes) = true) :
    ∃ A n cap, v = .slice A n cap ∧ n ≤ cap ∧ cap ≤ maxLen ∧ ∀ i, i < n → MsgAt w w A i := by
  obtain ⟨fuel, hf⟩ := h
  rw [hv] at hf
  rcases open_slice Try.underlying45 hf with ⟨e, _⟩ | ⟨a, len, cap, m, n, D, Pl, e, hb, hl, hm, hmm, hx, hi⟩
  · injection e with e
    exact ⟨none, 0, 0, e, Nat.le_refl _, by unfold maxLen; omega, fun i hi => absurd hi (by omega)⟩
  · injection e with e
    refine ⟨some a, len, cap, e, hl, hm, fun i hil => ?_⟩
    have hlm : len ≤ m := by rw [hmm]; split <;> omega
    obtain ⟨cs', hc, ht'⟩ := hi i (by omega)
    rw [show Try.prog.cellsOf 38 = 27 from by kernel_rfl] at hc
    obtain ⟨_, hcl, hat⟩ := World.cells?_some hc
    injection hx with hx
    have hw : ((D i).weights Try.prog 38).all (· ≤ reachBytes) = true := by
      refine List.all_eq_true.2 fun k hk => List.all_eq_true.1 hsz k ?_
      rw [hx]
      simp only [DataW.weights, Try.underlying45]
      refine List.mem_cons_of_mem _ (List.mem_append_left _ (weights_mem_all (d := D i) ?_ k hk))
      exact List.mem_map.2 ⟨i, List.mem_range.2 hil, rfl⟩
    obtain ⟨h27, kind, hmsg⟩ := msg_in ht' hw
    refine ⟨a, cs'.toArray, kind, rfl, ?_, hmsg, fun j u hu => ?_⟩
    · have h0 := hat 0 (by omega)
      rw [List.getElem?_eq_getElem (by omega)] at h0
      have := World.block_lt_of_cell? _ _ h0
      rwa [block_of_add, block_of_add] at this
    · have hj : cs'[j]? = some u := by simpa using hu
      rw [hat j (by have := (List.getElem?_eq_some_iff.1 hj).1; omega), hj]
end
end Go.Proofs.Ytmamdnikjfmenaa
