/-
  WHAT COMES IN: members, maps, commands, configurations, entries. (printed by gen_pai1.py). (joined out of PaI1 by shake.py)
-/
import Derived.Deep.Slices
import Derived.Deep.Fields
import Derived.ChangeSame
import Derived.Lib.SmallJoins
import Derived.Test.YthgiafjiemiifaaGreatPbk24
section
namespace Go.Proofs.YthgiafjiemiifaaGreat
open Go.RowKit OctMath
open Go.ChangeShapes Go.WideShapes Go.Deep
set_option linter.unusedVariables false
set_option linter.unusedSimpArgs false
theorem cons_of {α : Type} {cs : List α} {n : Nat} (h : cs.length = n + 1) : ∃ a t, cs = a :: t ∧ t.length = n := by
  cases cs with
  | nil => simp at h
  | cons a t => exact ⟨a, t, rfl, by simpa using h⟩
theorem nil_of {α : Type} {cs : List α} (h : cs.length = 0) : cs = [] := List.eq_nil_of_length_eq_zero h
theorem nat_u64 {z : Int} (h : (Lit.int .u64 z).wf = true) : ∃ k : Nat, z = (k : Int) ∧ k < 18446744073709551616 := by
  have : 0 ≤ z ∧ z ≤ 18446744073709551615 := by simpa [Lit.wf, IntKind.min, IntKind.max, IntKind.signed, IntKind.bits] using h
  exact ⟨z.toNat, by omega, by omega⟩
theorem nat_u32 {z : Int} (h : (Lit.int .u32 z).wf = true) : ∃ k : Nat, z = (k : Int) ∧ k < 4294967296 := by
  have : 0 ≤ z ∧ z ≤ 4294967295 := by simpa [Lit.wf, IntKind.min, IntKind.max, IntKind.signed, IntKind.bits] using h
  exact ⟨z.toNat, by omega, by omega⟩
theorem int_i64 {z : Int} (h : (Lit.int .i64 z).wf = true) : I64 z := by
  simpa [I64, Lit.wf, IntKind.min, IntKind.max, IntKind.signed, IntKind.bits] using h
section
variable {H : Type} {enc : TypeId × Value → H} {w : World} {base : Nat} {sp : Nat → Bool} {held : Bool}
/-- A struct's fields. -/
theorem trod_fld {P : Program} {T : TypeId} {fs : Array Field} {fuel : Nat} {cs : List Value} {x : DataW H × List MemPlace} (hu : P.underlying T = some (.struct fs)) (h : DataW.trod enc P w base sp held fuel T cs = some x) :
    cs.length = P.cellsOf T ∧ ∃ n, ∀ (i o k : Nat) (t : TypeId), (fs[i]?.map fun f => (f.type, f.offset)) = some (t, o) → P.cellsOf t = k → ∃ y, DataW.trod enc P w base sp held n t ((cs.drop o).take k) = some y := by
  obtain ⟨xs, n, rfl, hx, hlen, hxl, hf⟩ := DataW.trod_struct hu h
  refine ⟨hlen, n, fun i o k t hi hc => ?_⟩
  obtain ⟨F, hF, e⟩ := Option.map_eq_some_iff.1 hi
  injection e with e1 e2
  have hil : i < xs.length := by rw [hxl]; exact (Array.getElem?_eq_some_iff.1 hF).1
  have h1 := hf i F hF
  rw [e1, e2, hc, List.getElem?_eq_getElem hil] at h1
  exact ⟨_, h1⟩
/-- Things in a row, each of some cells: all of them. -/
theorem open_row {P : Program} {t e : TypeId} {α : Type} {cells : α → List Value} {ok : α → Prop} {size fuel : Nat} {v : Value} {x : DataW H × List MemPlace} (ht : P.underlying t = some (.slice e)) (hC : P.cellsOf e = size) (hs : 0 < size)
    (hone : ∀ n cs y, DataW.trod enc P w base sp held n e cs = some y → ∃ a, cs = cells a ∧ ok a) (hl : ∀ a, (cells a).length = size) (h : DataW.trod enc P w base sp held fuel t [v] = some x) :
    ∃ A n cap, ∃ l : List α, v = .slice A n cap ∧ Reads w w.heap.size size A n (l.flatMap cells) ∧ l.length = n ∧ (∀ a ∈ l, ok a) ∧ n ≤ cap ∧ cap ≤ maxLen := by
  rcases open_slice ht h with ⟨hcs, hx⟩ | ⟨a, len, cap, m, n, D, Pl, hcs, hb, hle, hm, hmm, hx, hi⟩
  · injection hcs with hcs
    exact ⟨none, 0, 0, [], hcs, (by refine ⟨?_, fun h => absurd h (by omega)⟩; simp), rfl, (fun a h => (by cases h)), (by omega), (by unfold maxLen; omega)⟩
  · injection hcs with hcs
    have hlm : len ≤ m := by rw [hmm]; split <;> omega
    have hcell : ∀ i, i < len → ∃ y : α, ok y ∧ ∀ j, j < size → w.cell? (a.add (i * size + j)) = (cells y)[j]? := by
      intro i hi'
      obtain ⟨cs', hc, ht'⟩ := hi i (by omega)
      obtain ⟨y, rfl, hy⟩ := hone _ _ _ ht'
      rw [hC] at hc
      obtain ⟨_, hlc, hat⟩ := World.cells?_some hc
      refine ⟨y, hy, fun j hj => ?_⟩
      have := hat j hj
      rw [Go.Deep.add_add] at this
      exact this
    obtain ⟨l, h1, h2⟩ : ∃ l : List α, l.length = len ∧ ∀ i (hi : i < l.length), ok l[i] ∧ ∀ j, j < size → w.cell? (a.add (i * size + j)) = (cells l[i])[j]? := by
      clear hx hi h hmm hle hcs hlm
      induction len with
      | zero => exact ⟨[], rfl, fun i hi => absurd hi (by simp)⟩
      | succ len ih =>
        obtain ⟨ns, h1, h2⟩ := ih fun i hi => hcell i (by omega)
        obtain ⟨s, hs⟩ := hcell len (by omega)
        refine ⟨ns ++ [s], by simp [h1], fun i hi => ?_⟩
        by_cases hlt : i < ns.length
        · rw [List.getElem_append_left hlt]; exact h2 i hlt
        · obtain rfl : i = len := by simp at hi; omega
          rw [List.getElem_append_right (by omega)]
          simp only [h1, Nat.sub_self, List.getElem_cons_zero]
          exact hs
    have hflat : ∀ (l : List α), (l.flatMap cells).length = l.length * size := by
      intro l
      induction l with
      | nil => simp
      | cons p l ih => rw [List.flatMap_cons, List.length_append, ih, hl, List.length_cons, Nat.succ_mul]; omega
    have hget : ∀ (l : List α) (i : Nat) (hi : i < l.length) (j : Nat), j < size → (l.flatMap cells)[i * size + j]? = (cells l[i])[j]? := by
      intro l
      induction l with
      | nil => intro i hi; simp at hi
      | cons p l ih =>
        intro i hi j hj
        rw [List.flatMap_cons]
        cases i with
        | zero => rw [Nat.zero_mul, Nat.zero_add, List.getElem?_append_left (by rw [hl]; exact hj)]; rfl
        | succ i =>
          rw [List.getElem?_append_right (by rw [hl, Nat.succ_mul]; omega), hl, show (i + 1) * size + j - size = i * size + j by rw [Nat.succ_mul]; omega]
          exact ih i (by simpa using hi) j hj
    refine ⟨some a, len, cap, l, hcs, ⟨by rw [hflat, h1], fun hn => ⟨a, rfl, ?_, fun j u hu => ?_⟩⟩, h1, fun y hy => ?_, hle, hm⟩
    · have h3 := (h2 0 (by omega)).2 0 hs
      have h4 : (cells (l[0]'(by omega)))[0]? = some ((cells (l[0]'(by omega)))[0]'(by rw [hl]; exact hs)) := List.getElem?_eq_getElem _
      rw [h4] at h3
      have := World.block_lt_of_cell? _ _ h3
      rwa [block_of_add] at this
    · have hj : j < l.length * size := by
        have h3 := (List.getElem?_eq_some_iff.1 hu).1
        rwa [hflat] at h3
      have hd : j / size < l.length := Nat.div_lt_of_lt_mul (by rw [Nat.mul_comm]; exact hj)
      have hm' : j % size < size := Nat.mod_lt _ hs
      have ej : j / size * size + j % size = j := by rw [Nat.mul_comm]; exact Nat.div_add_mod j size
      have h3 := (h2 (j / size) hd).2 (j % size) hm'
      have h4 := hget l (j / size) hd (j % size) hm'
      rw [ej] at h3 h4
      rw [h3, ← h4, hu]
    · obtain ⟨i, hi, rfl⟩ := List.mem_iff_getElem.1 hy
      exact (h2 i hi).1
theorem open_mem1 {fuel : Nat} {cs : List Value} {x : DataW H × List MemPlace} (h : DataW.trod enc Tryz.prog w base sp held fuel 185 cs = some x) : ∃ y : Int × Int, cs = [iv y.1, iv y.2] ∧ MemOk y := by
  obtain ⟨fs, hu, hk⟩ : ∃ fs : Array Field, Tryz.prog.underlying 185 = some (.struct fs) ∧ (([0, 1] : List Nat).map fun i => fs[i]?.map fun f => (f.type, f.offset)) = [some (3, 0), some (3, 1)] := ⟨_, Tryz.underlying185, by kernel_rfl⟩
  simp only [List.map_cons, List.map_nil, List.cons.injEq, and_true] at hk
  obtain ⟨k0, k1⟩ := hk
  obtain ⟨hlen, n, fld⟩ := trod_fld hu h
  have hl0 : cs.length = 2 := hlen.trans (by kernel_rfl)
  clear hlen
  clear h
  obtain ⟨a0, s0, rfl, hl1⟩ := cons_of hl0
  obtain ⟨a1, s1, rfl, hl2⟩ := cons_of hl1
  obtain rfl := nil_of hl2
  obtain ⟨y0, f0⟩ := fld 0 0 1 _ k0 (by kernel_rfl)
  simp only [List.drop_succ_cons, List.drop_zero, List.take_succ_cons, List.take_zero] at f0
  obtain ⟨y1, f1⟩ := fld 1 1 1 _ k1 (by kernel_rfl)
  simp only [List.drop_succ_cons, List.drop_zero, List.take_succ_cons, List.take_zero] at f1
  clear fld hl0 hl1 hl2
  obtain ⟨z0, e0, -, b0⟩ := DataW.trod_int Tryz.underlying3 f0
  injection e0 with e0
  subst e0
  have b0 := int_i64 b0
  obtain ⟨z1, e1, -, b1⟩ := DataW.trod_int Tryz.underlying3 f1
  injection e1 with e1
  subst e1
  have b1 := int_i64 b1
  exact ⟨(z0, z1), rfl, b0, b1⟩
theorem open_mems {fuel : Nat} {v : Value} {x : DataW H × List MemPlace} (h : DataW.trod enc Tryz.prog w base sp held fuel 29 [v] = some x) :
    ∃ A n cap ms, v = .slice A n cap ∧ Reads w w.heap.size 2 A n (mcells ms) ∧ ms.length = n ∧ (∀ y ∈ ms, MemOk y) ∧ n ≤ cap ∧ cap ≤ maxLen :=
  open_row Tryz.underlying29 (by kernel_rfl) (by decide) (fun n cs y hy => open_mem1 hy) (fun _ => rfl) h
theorem open_int1 {fuel : Nat} {cs : List Value} {x : DataW H × List MemPlace} (h : DataW.trod enc Tryz.prog w base sp held fuel 3 cs = some x) : ∃ y : Int, cs = [iv y] ∧ I64 y := by
  obtain ⟨z, e, -, b⟩ := DataW.trod_int Tryz.underlying3 h
  exact ⟨z, e, int_i64 b⟩
theorem flat_iv (l : List Int) : l.flatMap (fun y => [iv y]) = l.map iv := by
  induction l with
  | nil => rfl
  | cons a l ih => rw [List.flatMap_cons, ih]; rfl
theorem open_intl {fuel : Nat} {v : Value} {x : DataW H × List MemPlace} (h : DataW.trod enc Tryz.prog w base sp held fuel 34 [v] = some x) :
    ∃ A n cap, ∃ l : List Int, v = .slice A n cap ∧ Reads w w.heap.size 1 A n (l.map iv) ∧ l.length = n ∧ (∀ y ∈ l, I64 y) ∧ n ≤ cap ∧ cap ≤ maxLen := by
  obtain ⟨A, n, cap, l, h1, h2, h3⟩ := open_row (cells := fun y => [iv y]) Tryz.underlying34 (by kernel_rfl) (by decide) (fun n cs y hy => open_int1 hy) (fun _ => rfl) h
  rw [flat_iv] at h2
  exact ⟨A, n, cap, l, h1, h2, h3⟩
theorem open_id1 {fuel : Nat} {cs : List Value} {x : DataW H × List MemPlace} (h : DataW.trod enc Tryz.prog w base sp held fuel 28 cs = some x) : ∃ y : IdT, cs = [.int .u64 (y.ver : Int), .int .i64 y.idx, .int .u64 (y.ep : Int)] ∧ IdOk y := by
  obtain ⟨fs, hu, hk⟩ : ∃ fs : Array Field, Tryz.prog.underlying 28 = some (.struct fs) ∧ (([0, 1, 2] : List Nat).map fun i => fs[i]?.map fun f => (f.type, f.offset)) = [some (23, 0), some (3, 1), some (23, 2)] := ⟨_, Tryz.underlying28, by kernel_rfl⟩
  simp only [List.map_cons, List.map_nil, List.cons.injEq, and_true] at hk
  obtain ⟨k0, k1, k2⟩ := hk
  obtain ⟨hlen, n, fld⟩ := trod_fld hu h
  have hl0 : cs.length = 3 := hlen.trans (by kernel_rfl)
  clear hlen
  clear h
  obtain ⟨a0, s0, rfl, hl1⟩ := cons_of hl0
  obtain ⟨a1, s1, rfl, hl2⟩ := cons_of hl1
  obtain ⟨a2, s2, rfl, hl3⟩ := cons_of hl2
  obtain rfl := nil_of hl3
  obtain ⟨y0, f0⟩ := fld 0 0 1 _ k0 (by kernel_rfl)
  simp only [List.drop_succ_cons, List.drop_zero, List.take_succ_cons, List.take_zero] at f0
  obtain ⟨y1, f1⟩ := fld 1 1 1 _ k1 (by kernel_rfl)
  simp only [List.drop_succ_cons, List.drop_zero, List.take_succ_cons, List.take_zero] at f1
  obtain ⟨y2, f2⟩ := fld 2 2 1 _ k2 (by kernel_rfl)
  simp only [List.drop_succ_cons, List.drop_zero, List.take_succ_cons, List.take_zero] at f2
  clear fld hl0 hl1 hl2 hl3
  obtain ⟨z0, e0, -, b0⟩ := DataW.trod_int Tryz.underlying23 f0
  injection e0 with e0
  subst e0
  obtain ⟨z0, rfl, c0⟩ := nat_u64 b0
  obtain ⟨z1, e1, -, b1⟩ := DataW.trod_int Tryz.underlying3 f1
  injection e1 with e1
  subst e1
  have b1 := int_i64 b1
  obtain ⟨z2, e2, -, b2⟩ := DataW.trod_int Tryz.underlying23 f2
  injection e2 with e2
  subst e2
  obtain ⟨z2, rfl, c2⟩ := nat_u64 b2
  exact ⟨⟨z0, z1, z2⟩, rfl, c0, b1, c2⟩
theorem open_map1 {fuel : Nat} {cs : List Value} {x : DataW H × List MemPlace} (h : DataW.trod enc Tryz.prog w base sp held fuel 31 cs = some x) : ∃ (ep : Nat) (A : Option Addr) (n cap : Nat) (ms : List (Int × Int)), cs = [.int .u64 (ep : Int), .slice A n cap] ∧ ep < 18446744073709551616 ∧ Reads w w.heap.size 2 A n (mcells ms) ∧ ms.length = n ∧ ∀ y ∈ ms, MemOk y := by
  obtain ⟨fs, hu, hk⟩ : ∃ fs : Array Field, Tryz.prog.underlying 31 = some (.struct fs) ∧ (([0, 1] : List Nat).map fun i => fs[i]?.map fun f => (f.type, f.offset)) = [some (23, 0), some (29, 1)] := ⟨_, Tryz.underlying31, by kernel_rfl⟩
  simp only [List.map_cons, List.map_nil, List.cons.injEq, and_true] at hk
  obtain ⟨k0, k1⟩ := hk
  obtain ⟨hlen, n, fld⟩ := trod_fld hu h
  have hl0 : cs.length = 2 := hlen.trans (by kernel_rfl)
  clear hlen
  clear h
  obtain ⟨a0, s0, rfl, hl1⟩ := cons_of hl0
  obtain ⟨a1, s1, rfl, hl2⟩ := cons_of hl1
  obtain rfl := nil_of hl2
  obtain ⟨y0, f0⟩ := fld 0 0 1 _ k0 (by kernel_rfl)
  simp only [List.drop_succ_cons, List.drop_zero, List.take_succ_cons, List.take_zero] at f0
  obtain ⟨y1, f1⟩ := fld 1 1 1 _ k1 (by kernel_rfl)
  simp only [List.drop_succ_cons, List.drop_zero, List.take_succ_cons, List.take_zero] at f1
  clear fld hl0 hl1 hl2
  obtain ⟨z0, e0, -, b0⟩ := DataW.trod_int Tryz.underlying23 f0
  injection e0 with e0
  subst e0
  obtain ⟨z0, rfl, c0⟩ := nat_u64 b0
  obtain ⟨A, k, cap, ms, e1, hr, hl, hm, hc, hx⟩ := open_mems f1
  subst e1
  exact ⟨z0, A, k, cap, ms, rfl, c0, hr, hl, hm⟩
/-- A command that comes in: no bound on its lists. -/
structure CmdW (c : CmdT) : Prop where
  kind : I64 c.kind
  client : c.client < 18446744073709551616
  seq : c.seq < 18446744073709551616
  key : ∀ y ∈ c.key, y < 256
  size : I64 c.size
  sum : c.sum < 4294967296
  version : c.version < 18446744073709551616
  epoch : c.epoch < 18446744073709551616
  group : I64 c.group
  node : I64 c.node
  id : IdOk c.id
  mep : c.mep < 18446744073709551616
  mem : ∀ y ∈ c.mem, MemOk y
theorem CmdW.ok {c : CmdT} (h : CmdW c) (h1 : c.key.length ≤ 1048576) (h2 : c.mem.length ≤ 1048576) : CmdOk c := ⟨h.kind, h.client, h.seq, ⟨h.key, h1⟩, h.size, h.sum, h.version, h.epoch, h.group, h.node, h.id, h.mep, h.mem, h2⟩
theorem open_cmd1 {fuel : Nat} {cs : List Value} {x : DataW H × List MemPlace} (h : DataW.trod enc Tryz.prog w base sp held fuel 33 cs = some x) : ∃ (y : CmdT) (A : Option Addr) (c : Nat), cs = (#[.int .i64 y.kind, .int .u64 (y.client : Int), .int .u64 (y.seq : Int), .string (strOf y.key), .int .i64 y.size, .int .u32 (y.sum : Int), .int .u64 (y.version : Int), .int .u64 (y.epoch : Int), .int .i64 y.group, .int .i64 y.node, .bool y.up, .int .u64 (y.id.ver : Int), .int .i64 y.id.idx, .int .u64 (y.id.ep : Int), .int .u64 (y.mep : Int), .slice A y.mem.length c]).toList ∧ Reads w w.heap.size 2 A y.mem.length (mcells y.mem) ∧ CmdW y := by
  obtain ⟨fs, hu, hk⟩ : ∃ fs : Array Field, Tryz.prog.underlying 33 = some (.struct fs) ∧ (([0, 1, 2, 3, 4, 5, 6, 7, 8, 9, 10, 11, 12] : List Nat).map fun i => fs[i]?.map fun f => (f.type, f.offset)) = [some (25, 0), some (23, 1), some (23, 2), some (9, 3), some (3, 4), some (26, 5), some (23, 6), some (23, 7), some (3, 8), some (3, 9), some (4, 10), some (28, 11), some (31, 14)] := ⟨_, Tryz.underlying33, by kernel_rfl⟩
  simp only [List.map_cons, List.map_nil, List.cons.injEq, and_true] at hk
  obtain ⟨k0, k1, k2, k3, k4, k5, k6, k7, k8, k9, k10, k11, k12⟩ := hk
  obtain ⟨hlen, n, fld⟩ := trod_fld hu h
  have hl0 : cs.length = 16 := hlen.trans (by kernel_rfl)
  clear hlen
  clear h
  obtain ⟨a0, s0, rfl, hl1⟩ := cons_of hl0
  obtain ⟨a1, s1, rfl, hl2⟩ := cons_of hl1
  obtain ⟨a2, s2, rfl, hl3⟩ := cons_of hl2
  obtain ⟨a3, s3, rfl, hl4⟩ := cons_of hl3
  obtain ⟨a4, s4, rfl, hl5⟩ := cons_of hl4
  obtain ⟨a5, s5, rfl, hl6⟩ := cons_of hl5
  obtain ⟨a6, s6, rfl, hl7⟩ := cons_of hl6
  obtain ⟨a7, s7, rfl, hl8⟩ := cons_of hl7
  obtain ⟨a8, s8, rfl, hl9⟩ := cons_of hl8
  obtain ⟨a9, s9, rfl, hl10⟩ := cons_of hl9
  obtain ⟨a10, s10, rfl, hl11⟩ := cons_of hl10
  obtain ⟨a11, s11, rfl, hl12⟩ := cons_of hl11
  obtain ⟨a12, s12, rfl, hl13⟩ := cons_of hl12
  obtain ⟨a13, s13, rfl, hl14⟩ := cons_of hl13
  obtain ⟨a14, s14, rfl, hl15⟩ := cons_of hl14
  obtain ⟨a15, s15, rfl, hl16⟩ := cons_of hl15
  obtain rfl := nil_of hl16
  obtain ⟨y0, f0⟩ := fld 0 0 1 _ k0 (by kernel_rfl)
  simp only [List.drop_succ_cons, List.drop_zero, List.take_succ_cons, List.take_zero] at f0
  obtain ⟨y1, f1⟩ := fld 1 1 1 _ k1 (by kernel_rfl)
  simp only [List.drop_succ_cons, List.drop_zero, List.take_succ_cons, List.take_zero] at f1
  obtain ⟨y2, f2⟩ := fld 2 2 1 _ k2 (by kernel_rfl)
  simp only [List.drop_succ_cons, List.drop_zero, List.take_succ_cons, List.take_zero] at f2
  obtain ⟨y3, f3⟩ := fld 3 3 1 _ k3 (by kernel_rfl)
  simp only [List.drop_succ_cons, List.drop_zero, List.take_succ_cons, List.take_zero] at f3
  obtain ⟨y4, f4⟩ := fld 4 4 1 _ k4 (by kernel_rfl)
  simp only [List.drop_succ_cons, List.drop_zero, List.take_succ_cons, List.take_zero] at f4
  obtain ⟨y5, f5⟩ := fld 5 5 1 _ k5 (by kernel_rfl)
  simp only [List.drop_succ_cons, List.drop_zero, List.take_succ_cons, List.take_zero] at f5
  obtain ⟨y6, f6⟩ := fld 6 6 1 _ k6 (by kernel_rfl)
  simp only [List.drop_succ_cons, List.drop_zero, List.take_succ_cons, List.take_zero] at f6
  obtain ⟨y7, f7⟩ := fld 7 7 1 _ k7 (by kernel_rfl)
  simp only [List.drop_succ_cons, List.drop_zero, List.take_succ_cons, List.take_zero] at f7
  obtain ⟨y8, f8⟩ := fld 8 8 1 _ k8 (by kernel_rfl)
  simp only [List.drop_succ_cons, List.drop_zero, List.take_succ_cons, List.take_zero] at f8
  obtain ⟨y9, f9⟩ := fld 9 9 1 _ k9 (by kernel_rfl)
  simp only [List.drop_succ_cons, List.drop_zero, List.take_succ_cons, List.take_zero] at f9
  obtain ⟨y10, f10⟩ := fld 10 10 1 _ k10 (by kernel_rfl)
  simp only [List.drop_succ_cons, List.drop_zero, List.take_succ_cons, List.take_zero] at f10
  obtain ⟨y11, f11⟩ := fld 11 11 3 _ k11 (by kernel_rfl)
  simp only [List.drop_succ_cons, List.drop_zero, List.take_succ_cons, List.take_zero] at f11
  obtain ⟨y12, f12⟩ := fld 12 14 2 _ k12 (by kernel_rfl)
  simp only [List.drop_succ_cons, List.drop_zero, List.take_succ_cons, List.take_zero] at f12
  clear fld hl0 hl1 hl2 hl3 hl4 hl5 hl6 hl7 hl8 hl9 hl10 hl11 hl12 hl13 hl14 hl15 hl16
  obtain ⟨z0, e0, -, b0⟩ := DataW.trod_int Tryz.underlying25 f0
  injection e0 with e0
  subst e0
  have b0 := int_i64 b0
  obtain ⟨z1, e1, -, b1⟩ := DataW.trod_int Tryz.underlying23 f1
  injection e1 with e1
  subst e1
  obtain ⟨z1, rfl, c1⟩ := nat_u64 b1
  obtain ⟨z2, e2, -, b2⟩ := DataW.trod_int Tryz.underlying23 f2
  injection e2 with e2
  subst e2
  obtain ⟨z2, rfl, c2⟩ := nat_u64 b2
  obtain ⟨z3, e3, -, -⟩ := DataW.trod_string Tryz.underlying9 f3
  injection e3 with e3
  subst e3
  obtain ⟨z4, e4, -, b4⟩ := DataW.trod_int Tryz.underlying3 f4
  injection e4 with e4
  subst e4
  have b4 := int_i64 b4
  obtain ⟨z5, e5, -, b5⟩ := DataW.trod_int Tryz.underlying26 f5
  injection e5 with e5
  subst e5
  obtain ⟨z5, rfl, c5⟩ := nat_u32 b5
  obtain ⟨z6, e6, -, b6⟩ := DataW.trod_int Tryz.underlying23 f6
  injection e6 with e6
  subst e6
  obtain ⟨z6, rfl, c6⟩ := nat_u64 b6
  obtain ⟨z7, e7, -, b7⟩ := DataW.trod_int Tryz.underlying23 f7
  injection e7 with e7
  subst e7
  obtain ⟨z7, rfl, c7⟩ := nat_u64 b7
  obtain ⟨z8, e8, -, b8⟩ := DataW.trod_int Tryz.underlying3 f8
  injection e8 with e8
  subst e8
  have b8 := int_i64 b8
  obtain ⟨z9, e9, -, b9⟩ := DataW.trod_int Tryz.underlying3 f9
  injection e9 with e9
  subst e9
  have b9 := int_i64 b9
  obtain ⟨z10, e10, -⟩ := DataW.trod_bool Tryz.underlying4 f10
  injection e10 with e10
  subst e10
  obtain ⟨id, e11, b11⟩ := open_id1 f11
  injection e11 with q0 e11
  injection e11 with q1 e11
  injection e11 with q2 e11
  subst q0 q1 q2
  obtain ⟨ep, A, k, cap, ms, e12, b12, hr, hl, hm⟩ := open_map1 f12
  injection e12 with p0 e12
  injection e12 with p1 e12
  subst p0 p1
  exact ⟨⟨z0, z1, z2, octs z3, z4, z5, z6, z7, z8, z9, z10, id, ep, ms⟩, A, cap, by simp only [strOf_octs, hl], by rw [hl]; exact hr, b0, c1, c2, octs_byt z3, b4, c5, c6, c7, b8, b9, b11, b12, hm⟩
theorem open_conf1 {fuel : Nat} {cs : List Value} {x : DataW H × List MemPlace} (h : DataW.trod enc Tryz.prog w base sp held fuel 36 cs = some x) : ∃ (A : Option Addr) (c : Nat) (B : Option Addr) (d : Nat) (y : List Int × List Int), cs = [.slice A y.1.length c, .slice B y.2.length d] ∧ Reads w w.heap.size 1 A y.1.length (y.1.map iv) ∧ Reads w w.heap.size 1 B y.2.length (y.2.map iv) ∧ (∀ x ∈ y.1, I64 x) ∧ ∀ x ∈ y.2, I64 x := by
  obtain ⟨fs, hu, hk⟩ : ∃ fs : Array Field, Tryz.prog.underlying 36 = some (.struct fs) ∧ (([0, 1] : List Nat).map fun i => fs[i]?.map fun f => (f.type, f.offset)) = [some (34, 0), some (34, 1)] := ⟨_, Tryz.underlying36, by kernel_rfl⟩
  simp only [List.map_cons, List.map_nil, List.cons.injEq, and_true] at hk
  obtain ⟨k0, k1⟩ := hk
  obtain ⟨hlen, n, fld⟩ := trod_fld hu h
  have hl0 : cs.length = 2 := hlen.trans (by kernel_rfl)
  clear hlen
  clear h
  obtain ⟨a0, s0, rfl, hl1⟩ := cons_of hl0
  obtain ⟨a1, s1, rfl, hl2⟩ := cons_of hl1
  obtain rfl := nil_of hl2
  obtain ⟨y0, f0⟩ := fld 0 0 1 _ k0 (by kernel_rfl)
  simp only [List.drop_succ_cons, List.drop_zero, List.take_succ_cons, List.take_zero] at f0
  obtain ⟨y1, f1⟩ := fld 1 1 1 _ k1 (by kernel_rfl)
  simp only [List.drop_succ_cons, List.drop_zero, List.take_succ_cons, List.take_zero] at f1
  clear fld hl0 hl1 hl2
  obtain ⟨A, k, c, l, e0, r0, h0, o0, -, -⟩ := open_intl f0
  subst e0
  obtain ⟨B, m, d, l2, e1, r1, h1, o1, -, -⟩ := open_intl f1
  subst e1
  exact ⟨A, c, B, d, (l, l2), by simp only [h0, h1], by rw [h0]; exact r0, by rw [h1]; exact r1, o0, o1⟩
structure EntW (x : EntT) : Prop where
  index : x.index < 18446744073709551616
  term : x.term < 18446744073709551616
  kind : I64 x.kind
  cmd : CmdW x.cmd
  vot : ∀ y ∈ x.voters, I64 y
  lea : ∀ y ∈ x.learners, I64 y
theorem EntW.ok {x : EntT} (h : EntW x) (h1 : x.cmd.key.length ≤ 1048576) (h2 : x.cmd.mem.length ≤ 1048576) (h3 : x.voters.length ≤ 1048576) (h4 : x.learners.length ≤ 1048576) : EntOk x := ⟨h.index, h.term, h.kind, h.cmd.ok h1 h2, ⟨h.vot, h3⟩, ⟨h.lea, h4⟩⟩
/-- An entry in memory: its content, and where its lists lie. -/
structure EM where
  x : EntT
  A : Option Addr
  c : Nat
  B : Option Addr
  d : Nat
  E : Option Addr
  f : Nat
def emCs (m : EM) : List Value := (#[.int .u64 (m.x.index : Int), .int .u64 (m.x.term : Int), .int .i64 m.x.kind, .int .i64 m.x.cmd.kind, .int .u64 (m.x.cmd.client : Int), .int .u64 (m.x.cmd.seq : Int), .string (strOf m.x.cmd.key), .int .i64 m.x.cmd.size, .int .u32 (m.x.cmd.sum : Int), .int .u64 (m.x.cmd.version : Int), .int .u64 (m.x.cmd.epoch : Int), .int .i64 m.x.cmd.group, .int .i64 m.x.cmd.node, .bool m.x.cmd.up, .int .u64 (m.x.cmd.id.ver : Int), .int .i64 m.x.cmd.id.idx, .int .u64 (m.x.cmd.id.ep : Int), .int .u64 (m.x.cmd.mep : Int), .slice m.A m.x.cmd.mem.length m.c, .slice m.B m.x.voters.length m.d, .slice m.E m.x.learners.length m.f] : Array Value).toList
structure EmIn (w : World) (m : EM) : Prop where
  r1 : Reads w w.heap.size 2 m.A m.x.cmd.mem.length (mcells m.x.cmd.mem)
  r2 : Reads w w.heap.size 1 m.B m.x.voters.length (m.x.voters.map iv)
  r3 : Reads w w.heap.size 1 m.E m.x.learners.length (m.x.learners.map iv)
  ok : EntW m.x
theorem open_em1 {fuel : Nat} {cs : List Value} {x : DataW H × List MemPlace} (h : DataW.trod enc Tryz.prog w base sp held fuel 38 cs = some x) : ∃ m : EM, cs = emCs m ∧ EmIn w m := by
  obtain ⟨fs, hu, hk⟩ : ∃ fs : Array Field, Tryz.prog.underlying 38 = some (.struct fs) ∧ (([0, 1, 2, 3, 4] : List Nat).map fun i => fs[i]?.map fun f => (f.type, f.offset)) = [some (23, 0), some (23, 1), some (24, 2), some (33, 3), some (36, 19)] := ⟨_, Tryz.underlying38, by kernel_rfl⟩
  simp only [List.map_cons, List.map_nil, List.cons.injEq, and_true] at hk
  obtain ⟨k0, k1, k2, k3, k4⟩ := hk
  obtain ⟨hlen, n, fld⟩ := trod_fld hu h
  have hl0 : cs.length = 21 := hlen.trans (by kernel_rfl)
  clear hlen
  clear h
  obtain ⟨a0, s0, rfl, hl1⟩ := cons_of hl0
  obtain ⟨a1, s1, rfl, hl2⟩ := cons_of hl1
  obtain ⟨a2, s2, rfl, hl3⟩ := cons_of hl2
  obtain ⟨a3, s3, rfl, hl4⟩ := cons_of hl3
  obtain ⟨a4, s4, rfl, hl5⟩ := cons_of hl4
  obtain ⟨a5, s5, rfl, hl6⟩ := cons_of hl5
  obtain ⟨a6, s6, rfl, hl7⟩ := cons_of hl6
  obtain ⟨a7, s7, rfl, hl8⟩ := cons_of hl7
  obtain ⟨a8, s8, rfl, hl9⟩ := cons_of hl8
  obtain ⟨a9, s9, rfl, hl10⟩ := cons_of hl9
  obtain ⟨a10, s10, rfl, hl11⟩ := cons_of hl10
  obtain ⟨a11, s11, rfl, hl12⟩ := cons_of hl11
  obtain ⟨a12, s12, rfl, hl13⟩ := cons_of hl12
  obtain ⟨a13, s13, rfl, hl14⟩ := cons_of hl13
  obtain ⟨a14, s14, rfl, hl15⟩ := cons_of hl14
  obtain ⟨a15, s15, rfl, hl16⟩ := cons_of hl15
  obtain ⟨a16, s16, rfl, hl17⟩ := cons_of hl16
  obtain ⟨a17, s17, rfl, hl18⟩ := cons_of hl17
  obtain ⟨a18, s18, rfl, hl19⟩ := cons_of hl18
  obtain ⟨a19, s19, rfl, hl20⟩ := cons_of hl19
  obtain ⟨a20, s20, rfl, hl21⟩ := cons_of hl20
  obtain rfl := nil_of hl21
  obtain ⟨y0, f0⟩ := fld 0 0 1 _ k0 (by kernel_rfl)
  simp only [List.drop_succ_cons, List.drop_zero, List.take_succ_cons, List.take_zero] at f0
  obtain ⟨y1, f1⟩ := fld 1 1 1 _ k1 (by kernel_rfl)
  simp only [List.drop_succ_cons, List.drop_zero, List.take_succ_cons, List.take_zero] at f1
  obtain ⟨y2, f2⟩ := fld 2 2 1 _ k2 (by kernel_rfl)
  simp only [List.drop_succ_cons, List.drop_zero, List.take_succ_cons, List.take_zero] at f2
  obtain ⟨y3, f3⟩ := fld 3 3 16 _ k3 (by kernel_rfl)
  simp only [List.drop_succ_cons, List.drop_zero, List.take_succ_cons, List.take_zero] at f3
  obtain ⟨y4, f4⟩ := fld 4 19 2 _ k4 (by kernel_rfl)
  simp only [List.drop_succ_cons, List.drop_zero, List.take_succ_cons, List.take_zero] at f4
  clear fld hl0 hl1 hl2 hl3 hl4 hl5 hl6 hl7 hl8 hl9 hl10 hl11 hl12 hl13 hl14 hl15 hl16 hl17 hl18 hl19 hl20 hl21
  obtain ⟨z0, e0, -, b0⟩ := DataW.trod_int Tryz.underlying23 f0
  injection e0 with e0
  subst e0
  obtain ⟨z0, rfl, c0⟩ := nat_u64 b0
  obtain ⟨z1, e1, -, b1⟩ := DataW.trod_int Tryz.underlying23 f1
  injection e1 with e1
  subst e1
  obtain ⟨z1, rfl, c1⟩ := nat_u64 b1
  obtain ⟨z2, e2, -, b2⟩ := DataW.trod_int Tryz.underlying24 f2
  injection e2 with e2
  subst e2
  have b2 := int_i64 b2
  obtain ⟨cy, A, c, e3, r1, o3⟩ := open_cmd1 f3
  injection e3 with p0 e3
  injection e3 with p1 e3
  injection e3 with p2 e3
  injection e3 with p3 e3
  injection e3 with p4 e3
  injection e3 with p5 e3
  injection e3 with p6 e3
  injection e3 with p7 e3
  injection e3 with p8 e3
  injection e3 with p9 e3
  injection e3 with p10 e3
  injection e3 with p11 e3
  injection e3 with p12 e3
  injection e3 with p13 e3
  injection e3 with p14 e3
  injection e3 with p15 e3
  subst p0 p1 p2 p3 p4 p5 p6 p7 p8 p9 p10 p11 p12 p13 p14 p15
  obtain ⟨B, d, E, f, cf, e4, r2, r3, o4, o5⟩ := open_conf1 f4
  injection e4 with u0 e4
  injection e4 with u1 e4
  subst u0 u1
  exact ⟨⟨⟨z0, z1, z2, cy, cf.1, cf.2⟩, A, c, B, d, E, f⟩, rfl, r1, r2, r3, c0, c1, b2, o3, o4, o5⟩
end
end Go.Proofs.YthgiafjiemiifaaGreat
end
