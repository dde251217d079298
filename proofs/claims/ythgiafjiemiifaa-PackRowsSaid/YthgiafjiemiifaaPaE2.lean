/-
  ROWS OF ENTRIES: a whole struct of a row read; an entry put; what stands at an entry's place. (printed by gen_pas4.py)
-/
import Derived.Test.YthgiafjiemiifaaPaE1
import Derived.Test.YthgiafjiemiifaaPaI1
import Derived.Test.YthgiafjiemiifaaPaB1
import Derived.Great.BuildSlice
namespace Go.Proofs.Ythgiafjiemiifaa
open Go.RowKit OctMath
set_option linter.unusedVariables false
theorem load_at {P : Program} {w : World} {p : Addr} {ty : TypeId} {cs : List Value} {d : TypeDesc} (hc : ∀ j v, cs[j]? = some v → w.cell? (p.add j) = some v) (hu : P.underlying ty = some d) (hd : d.isRow = true) (hi : (P.info? ty).map (·.size) = some cs.length) :
    (loadVar ty p).run P w = .ok (.agg cs.toArray) w := by
  have hl : (loadCells p cs.length).run P w = .ok cs.toArray w := run_loadCells_list (P := P) w p cs hc
  cases hq : P.info? ty with
  | none => simp [hq] at hi
  | some i =>
    have hs : i.size = cs.length := by simpa [hq] using hi
    have hagg : (isAgg ty).run P w = .ok true w := by
      unfold isAgg
      rw [Sem.run_bind, run_underlying hu w]
      cases d <;> simp_all
    simp [loadVar, Sem.run_bind, hagg, sizeOf, typeInfo, hq, hs, hl]
theorem wpl_load_at {P : Program} {ops : Array Oper} {rest : List Oper} {op : Oper} {a : Act} {w : World} {Q : Exit → Act → World → Prop} (hgd : op.guard = none) (ty : TypeId) (x : Operand) (ho : op.op = .load ty x)
    (p : Addr) (cs : List Value) (d : TypeDesc) (hx : a.eval x = .pointer (some p)) (hc : ∀ j v, cs[j]? = some v → w.cell? (p.add j) = some v) (hu : P.underlying ty = some d) (hd : d.isRow = true) (hi : (P.info? ty).map (·.size) = some cs.length)
    (h : wpList P ops Q rest (a.put op.dst (.agg cs.toArray)) w) : wpList P ops Q (op :: rest) a w := by
  refine wpList_plain hgd fun K hK => ?_
  unfold Oper.wp execOp
  simp only [ho, hx, Instr.loadAt, Instr.sureAddr, Sem.run_bind, Sem.run_pure, Result.andThen_ok, load_at hc hu hd hi]
  exact hK _ _ h
theorem yields_load_at {P : Program} {ops : Array Oper} {S : World → Prop} {op : Oper} {a : Act} (hw : Region.wanted op (yielded ops a.tmps) = true) (ty : TypeId) (x : Operand) (ho : op.op = .load ty x)
    (p : Addr) (cs : List Value) (d : TypeDesc) (hx : a.eval x = .pointer (some p)) (hS : ∀ w, S w → ∀ j v, cs[j]? = some v → w.cell? (p.add j) = some v) (hu : P.underlying ty = some d) (hd : d.isRow = true) (hi : (P.info? ty).map (·.size) = some cs.length) :
    YieldsIf P ops S op (.agg cs.toArray) a :=
  .inl ⟨hw, fun w hw' => by
    unfold execOp
    simp only [ho, hx, Instr.loadAt, Instr.sureAddr, Sem.run_bind, Sem.run_pure, Result.andThen_ok, load_at (hS w hw') hu hd hi]⟩
theorem fill_one {cs z : Array Value} (h0 : 0 < cs.size) (h : z.size = cs.size) : Instr.fill (fun i => some (i * cs.size, cs.size)) z [(0, .agg cs)] = some cs := by
  obtain ⟨r, h1, h2, h3⟩ := Great.fill_dense h0 [.agg cs] 0 z (fun v hv => by rw [List.mem_singleton.1 hv]; rfl) (by simp [h])
  have e : r = cs := by
    apply Array.ext_getElem?
    intro k
    rw [h3 k]
    by_cases hk : k < cs.size
    · rw [if_pos (by simpa using hk), Nat.div_eq_of_lt hk, Nat.mod_eq_of_lt hk]
      rfl
    · rw [if_neg (by simpa using hk), Array.getElem?_eq_none (by omega), Array.getElem?_eq_none (by omega)]
  rw [e] at h1
  exact h1
theorem Try.infoEnt : (Try.prog.info? 68).map (fun i => (i.zero.map (·.cells.size), i.size)) = some (some 21, 21) := by kernel_rfl
/-- A row of one entry is made. -/
theorem wp_build1 {op : Oper} {a : Act} {w : World} {K : Act → World → Prop} {Q : Exit → Act → World → Prop} (x : Operand) (ho : op.op = .buildSlice 65 1 #[(0, x)]) (cs : Array Value) (hcs : cs.size = 21) (hx : a.eval x = .agg cs)
    (h : K (a.put op.dst (.slice (some ⟨w.heap.size, 0, none⟩) 1 1)) (w.alloc (.cells cs 68))) : op.wp Try.prog a w K Q := by
  have hi := Try.infoEnt
  cases q1 : Try.prog.info? 68 with
  | none => rw [q1] at hi; cases hi
  | some ii =>
    rw [q1] at hi
    simp only [Option.map_some, Option.some.injEq, Prod.mk.injEq] at hi
    obtain ⟨hz, q3⟩ := hi
    obtain ⟨z, q2, hzs⟩ := Option.map_eq_some_iff.1 hz
    refine wp_buildSlice 65 68 1 #[(0, x)] ho cs ii z Try.underlying65 q1 q2 (by rw [q3]; decide) (by rw [q3]; decide) ?_ h
    rw [q3]
    have e1 : ((#[(0, x)] : Array (Nat × Operand)).map fun (i, x) => (i, a.eval x)).toList = [(0, Value.agg cs)] := by simp [hx]
    rw [e1, ← hcs]
    exact fill_one (by omega) (by simp [hcs])
theorem flat_get {α β : Type} {cells : α → List β} {size : Nat} (hl : ∀ a, (cells a).length = size) : ∀ (l : List α) (i : Nat) (hi : i < l.length) (j : Nat), j < size → (l.flatMap cells)[i * size + j]? = (cells l[i])[j]?
  | [], i, hi, _, _ => by simp at hi
  | p :: l, i, hi, j, hj => by
    rw [List.flatMap_cons]
    cases i with
    | zero => rw [Nat.zero_mul, Nat.zero_add, List.getElem?_append_left (by rw [hl]; exact hj)]; rfl
    | succ i =>
      rw [List.getElem?_append_right (by rw [hl, Nat.succ_mul]; omega), hl, show (i + 1) * size + j - size = i * size + j by rw [Nat.succ_mul]; omega]
      exact flat_get hl l i (by simpa using hi) j hj
/-- Entry k of a row: its cells. -/
theorem em_cells {w : World} {ad : Addr} {es : List EM} (hr : ∀ j u, (es.flatMap emCs)[j]? = some u → w.cell? (ad.add j) = some u) {k : Nat} (hk : k < es.length) : ∀ j v, (emCs es[k])[j]? = some v → w.cell? ((ad.add (k * 21)).add j) = some v := by
  intro j v hv
  have hj : j < 21 := (List.getElem?_eq_some_iff.1 hv).1
  rw [Go.Deep.add_add]
  refine hr _ _ ?_
  rw [flat_get (size := 21) (fun _ => rfl) es k hk j hj]
  exact hv
/-- Bytes that come back, with their room. -/
def RetOB (ys : List Nat) (w : World) (e : Ending) (w' : World) : Prop := ∃ A cap, e = .returned (.slice A ys.length cap) ∧ Reads w' w'.heap.size 1 A ys.length (ys.map bv) ∧ Below w.heap.size w w' ∧ ys.length ≤ cap ∧ cap ≤ maxLen
set_option maxRecDepth 100000 in
set_option maxHeartbeats 4000000 in
theorem wrb_entry (O : Option Addr) (on oc : Nat) (xs : List Nat) (A : Option Addr) (c : Nat) (B : Option Addr) (d : Nat) (E : Option Addr) (f : Nat) (x : EntT) (w : World) (hO : Hid (Reads w w.heap.size 1 O on (xs.map bv))) (hK : Hid (Reads w w.heap.size 2 A x.cmd.mem.length (mcells x.cmd.mem))) (hJ : Hid (Reads w w.heap.size 1 B x.voters.length (x.voters.map iv))) (hI : Hid (Reads w w.heap.size 1 E x.learners.length (x.learners.map iv))) (HO : EntOk x) (hl : on + 42992040 ≤ 70000000000000) :
    Calls Try.prog 50 #[.slice O on oc, .agg #[.int .u64 (x.index : Int), .int .u64 (x.term : Int), .int .i64 x.kind, .int .i64 x.cmd.kind, .int .u64 (x.cmd.client : Int), .int .u64 (x.cmd.seq : Int), .string (strOf x.cmd.key), .int .i64 x.cmd.size, .int .u32 (x.cmd.sum : Int), .int .u64 (x.cmd.version : Int), .int .u64 (x.cmd.epoch : Int), .int .i64 x.cmd.group, .int .i64 x.cmd.node, .bool x.cmd.up, .int .u64 (x.cmd.id.ver : Int), .int .i64 x.cmd.id.idx, .int .u64 (x.cmd.id.ep : Int), .int .u64 (x.cmd.mep : Int), .slice A x.cmd.mem.length c, .slice B x.voters.length d, .slice E x.learners.length f], .func (.func 51) #[] #[]] w (RetOB (xs ++ pEnt x) w) := by
  have hon : xs.length = on := by simpa using hO.out.1
  have HON := Lib.hid hon
  have hmk : ∀ W : World, (Instr.makeSlice 22 (.int .i64 0) (.int .i64 ((on : Int) + 64))).run Try.prog W = .ok (.slice (some ⟨W.heap.size, 0, none⟩) 0 (on + 64)) (W.alloc (.cells (madeCells #[.int .u8 0] (on + 64)) 5)) := fun W => by
    have := make0 (on + 64) (by omega) W
    rw [show ((on + 64 : Nat) : Int) = (on : Int) + 64 from by omega] at this
    exact this
  have HO := Lib.hid HO
  obtain ⟨ys, hys⟩ : ∃ ys, xs ++ pEnt x = ys := ⟨_, rfl⟩
  have HYS := Lib.hid hys
  rw [hys]
  clear hys
  obtain ⟨w0, ew0⟩ : ∃ w0, w.alloc (.cells #[.int .u64 (x.index : Int), .int .u64 (x.term : Int), .int .i64 x.kind, .int .i64 x.cmd.kind, .int .u64 (x.cmd.client : Int), .int .u64 (x.cmd.seq : Int), .string (strOf x.cmd.key), .int .i64 x.cmd.size, .int .u32 (x.cmd.sum : Int), .int .u64 (x.cmd.version : Int), .int .u64 (x.cmd.epoch : Int), .int .i64 x.cmd.group, .int .i64 x.cmd.node, .bool x.cmd.up, .int .u64 (x.cmd.id.ver : Int), .int .i64 x.cmd.id.idx, .int .u64 (x.cmd.id.ep : Int), .int .u64 (x.cmd.mep : Int), .slice A x.cmd.mem.length c, .slice B x.voters.length d, .slice E x.learners.length f] 68) = w0 := ⟨_, rfl⟩
  have hb : Below w.heap.size w (w.alloc (.cells #[.int .u64 (x.index : Int), .int .u64 (x.term : Int), .int .i64 x.kind, .int .i64 x.cmd.kind, .int .u64 (x.cmd.client : Int), .int .u64 (x.cmd.seq : Int), .string (strOf x.cmd.key), .int .i64 x.cmd.size, .int .u32 (x.cmd.sum : Int), .int .u64 (x.cmd.version : Int), .int .u64 (x.cmd.epoch : Int), .int .i64 x.cmd.group, .int .i64 x.cmd.node, .bool x.cmd.up, .int .u64 (x.cmd.id.ver : Int), .int .i64 x.cmd.id.idx, .int .u64 (x.cmd.id.ep : Int), .int .u64 (x.cmd.mep : Int), .slice A x.cmd.mem.length c, .slice B x.voters.length d, .slice E x.learners.length f] 68)) := (Below.refl _ _).alloc (Nat.le_refl _) _
  have hx : Blk (w.alloc (.cells #[.int .u64 (x.index : Int), .int .u64 (x.term : Int), .int .i64 x.kind, .int .i64 x.cmd.kind, .int .u64 (x.cmd.client : Int), .int .u64 (x.cmd.seq : Int), .string (strOf x.cmd.key), .int .i64 x.cmd.size, .int .u32 (x.cmd.sum : Int), .int .u64 (x.cmd.version : Int), .int .u64 (x.cmd.epoch : Int), .int .i64 x.cmd.group, .int .i64 x.cmd.node, .bool x.cmd.up, .int .u64 (x.cmd.id.ver : Int), .int .i64 x.cmd.id.idx, .int .u64 (x.cmd.id.ep : Int), .int .u64 (x.cmd.mep : Int), .slice A x.cmd.mem.length c, .slice B x.voters.length d, .slice E x.learners.length f] 68)) w.heap.size 68 #[.int .u64 (x.index : Int), .int .u64 (x.term : Int), .int .i64 x.kind, .int .i64 x.cmd.kind, .int .u64 (x.cmd.client : Int), .int .u64 (x.cmd.seq : Int), .string (strOf x.cmd.key), .int .i64 x.cmd.size, .int .u32 (x.cmd.sum : Int), .int .u64 (x.cmd.version : Int), .int .u64 (x.cmd.epoch : Int), .int .i64 x.cmd.group, .int .i64 x.cmd.node, .bool x.cmd.up, .int .u64 (x.cmd.id.ver : Int), .int .i64 x.cmd.id.idx, .int .u64 (x.cmd.id.ep : Int), .int .u64 (x.cmd.mep : Int), .slice A x.cmd.mem.length c, .slice B x.voters.length d, .slice E x.learners.length f] := Blk.new w _ _
  rw [ew0] at hb hx
  have hsz : w0.heap.size = w.heap.size + 1 := by rw [← ew0]; simp
  have HB0 := Lib.hid hb
  have HX0 := Lib.hid hx
  have HS0 := Lib.hid hsz
  clear hb hx hsz hon
  go_enter Try.func50, Try.ntmps50
  go_wp2_with (first
    | (at_builtin
       refine wpl_append rfl (.tmp 11) (.tmp 12) _ rfl w0 w0.heap.size 5 _ 1 1 Try.underlying22 Try.infoU8 rfl (by decide) (.slice (some ⟨w0.heap.size, 0, none⟩) 0 (on + 64)) 0 [] rfl ?own (w0.heap.size + 1) O on oc (xs.map bv) rfl ?rd (bv_one xs) (by omega) (by decide) ?bel ?base ?_
       case own => exact World.ownsRow_made w0 _ _ (Nat.le_refl _) (by unfold maxLen; omega) (by rw [size_madeCells, Nat.mul_one])
       case rd => exact ((hO.out.later HB0.out).alloc (Nat.le_refl _) _).more (by simp)
       case bel => exact (Below.refl _ _).alloc (Nat.le_refl _) _
       case base => simp
       intro v1 w1 hh
       obtain ⟨PA, pn, pc, rfl⟩ : ∃ PA pn pc, v1 = .slice PA pn pc := (by obtain ⟨x, y, e, _⟩ := own_slice hh.out.1; exact ⟨_, _, _, e⟩)
       have h1 := hh.out.1
       have h2 := hh.out.2.1
       have h3 := hh.out.2.2
       have hbs : Below w0.heap.size w0 (w1.alloc (.cells #[.slice PA pn pc] 127)) := h2.alloc h3 _
       have hsh : Sh (fun k => k < w.heap.size) w1.heap.size xs (w1.alloc (.cells #[.slice PA pn pc] 127)) := (by
         refine ⟨⟨_, Blk.new _ _ _, ?_, fun e => by have := (h1.lt _ e).2; omega, fun k hk e => by have := (h1.lt _ e).1; have := HS0.out; omega⟩⟩
         have h := own_baseO h1 (Nat.zero_le _)
         rw [HON.out]
         simpa using h.alloc _)
       obtain ⟨w2, ew2⟩ : ∃ w2, w1.alloc (.cells #[.slice PA pn pc] 127) = w2 := ⟨_, rfl⟩
       rw [ew2] at hbs hsh
       have HX2 := Lib.hid (HX0.out.below hbs (by have := HS0.out; omega))
       have HB4 := Lib.hid (show Below w.heap.size w w2 from HB0.out.trans (hbs.mono (by have := HS0.out; omega)))
       have HSH := Lib.hid hsh
       have HSF := Lib.hid (show Safe (fun k => k < w.heap.size) w1.heap.size w2 from fun k hk => ⟨Nat.lt_of_lt_of_le hk HB4.out.size, by have := HS0.out; omega⟩)
       clear ew0 hmk h1 h2 h3 hbs hsh)
    | (refine wpl_load_blk rfl 68 (.tmp 4) rfl w.heap.size 68 _ _ rfl HX2.out Try.underlying68 rfl Try.sizeE ?_)
    | (go_at_call 51; refine (sh_entry (fun k => k < w.heap.size) w1.heap.size xs A c B d E f x w2 HSH HSF (Lib.hid (hK.out.later HB4.out)) (Lib.hid (fun h0 ad e => by obtain ⟨ad1, e1, h1, -⟩ := hK.out.2 h0; rw [e] at e1; injection e1 with e1; subst e1; exact h1)) (Lib.hid (hJ.out.later HB4.out)) (Lib.hid (fun h0 ad e => by obtain ⟨ad1, e1, h1, -⟩ := hJ.out.2 h0; rw [e] at e1; injection e1 with e1; subst e1; exact h1)) (Lib.hid (hI.out.later HB4.out)) (Lib.hid (fun h0 ad e => by obtain ⟨ad1, e1, h1, -⟩ := hI.out.2 h0; rw [e] at e1; injection e1 with e1; subst e1; exact h1)) HO.out (by have := HON.out; omega)).mono ?_; rintro e w3 ⟨rfl, h1, h2⟩
       rw [HYS.out] at h1
       have HK3 := Lib.hid h2
       obtain ⟨pv, pB, pO, -, -⟩ := h1.out
       obtain ⟨A3, c3, rfl, u1, u2⟩ := own_slice pO
       have HU := Lib.hid (And.intro u1 u2)
       have z0 := pB.cell 0
       have HR := Lib.hid (Reads.of_own pO)
       clear h1 h2 pB pO ew2 u1 u2))
  go_ret
  refine ⟨_, _, rfl, HR.out, ?_⟩
  exact ⟨HB4.out.trans (HK3.out.toBelow HB4.out.size (fun k hk => hk)), HU.out.1, HU.out.2⟩
set_option maxRecDepth 100000 in
set_option maxHeartbeats 4000000 in
theorem putb_entry (O : Option Addr) (on oc : Nat) (xs : List Nat) (A : Option Addr) (c : Nat) (B : Option Addr) (d : Nat) (E : Option Addr) (f : Nat) (x : EntT) (w : World) (hO : Hid (Reads w w.heap.size 1 O on (xs.map bv))) (hK : Hid (Reads w w.heap.size 2 A x.cmd.mem.length (mcells x.cmd.mem))) (hJ : Hid (Reads w w.heap.size 1 B x.voters.length (x.voters.map iv))) (hI : Hid (Reads w w.heap.size 1 E x.learners.length (x.learners.map iv))) (HO : EntOk x) (hl : on + 42992040 ≤ 70000000000000) :
    Calls Try.prog 22 #[.slice O on oc, .agg #[.int .u64 (x.index : Int), .int .u64 (x.term : Int), .int .i64 x.kind, .int .i64 x.cmd.kind, .int .u64 (x.cmd.client : Int), .int .u64 (x.cmd.seq : Int), .string (strOf x.cmd.key), .int .i64 x.cmd.size, .int .u32 (x.cmd.sum : Int), .int .u64 (x.cmd.version : Int), .int .u64 (x.cmd.epoch : Int), .int .i64 x.cmd.group, .int .i64 x.cmd.node, .bool x.cmd.up, .int .u64 (x.cmd.id.ver : Int), .int .i64 x.cmd.id.idx, .int .u64 (x.cmd.id.ep : Int), .int .u64 (x.cmd.mep : Int), .slice A x.cmd.mem.length c, .slice B x.voters.length d, .slice E x.learners.length f]] w (RetOB (xs ++ pEnt x) w) := by
  obtain ⟨w0, ew0⟩ : ∃ w0, w.alloc (.cells #[.int .u64 (x.index : Int), .int .u64 (x.term : Int), .int .i64 x.kind, .int .i64 x.cmd.kind, .int .u64 (x.cmd.client : Int), .int .u64 (x.cmd.seq : Int), .string (strOf x.cmd.key), .int .i64 x.cmd.size, .int .u32 (x.cmd.sum : Int), .int .u64 (x.cmd.version : Int), .int .u64 (x.cmd.epoch : Int), .int .i64 x.cmd.group, .int .i64 x.cmd.node, .bool x.cmd.up, .int .u64 (x.cmd.id.ver : Int), .int .i64 x.cmd.id.idx, .int .u64 (x.cmd.id.ep : Int), .int .u64 (x.cmd.mep : Int), .slice A x.cmd.mem.length c, .slice B x.voters.length d, .slice E x.learners.length f] 68) = w0 := ⟨_, rfl⟩
  have hb : Below w.heap.size w (w.alloc (.cells #[.int .u64 (x.index : Int), .int .u64 (x.term : Int), .int .i64 x.kind, .int .i64 x.cmd.kind, .int .u64 (x.cmd.client : Int), .int .u64 (x.cmd.seq : Int), .string (strOf x.cmd.key), .int .i64 x.cmd.size, .int .u32 (x.cmd.sum : Int), .int .u64 (x.cmd.version : Int), .int .u64 (x.cmd.epoch : Int), .int .i64 x.cmd.group, .int .i64 x.cmd.node, .bool x.cmd.up, .int .u64 (x.cmd.id.ver : Int), .int .i64 x.cmd.id.idx, .int .u64 (x.cmd.id.ep : Int), .int .u64 (x.cmd.mep : Int), .slice A x.cmd.mem.length c, .slice B x.voters.length d, .slice E x.learners.length f] 68)) := (Below.refl _ _).alloc (Nat.le_refl _) _
  have hx : Blk (w.alloc (.cells #[.int .u64 (x.index : Int), .int .u64 (x.term : Int), .int .i64 x.kind, .int .i64 x.cmd.kind, .int .u64 (x.cmd.client : Int), .int .u64 (x.cmd.seq : Int), .string (strOf x.cmd.key), .int .i64 x.cmd.size, .int .u32 (x.cmd.sum : Int), .int .u64 (x.cmd.version : Int), .int .u64 (x.cmd.epoch : Int), .int .i64 x.cmd.group, .int .i64 x.cmd.node, .bool x.cmd.up, .int .u64 (x.cmd.id.ver : Int), .int .i64 x.cmd.id.idx, .int .u64 (x.cmd.id.ep : Int), .int .u64 (x.cmd.mep : Int), .slice A x.cmd.mem.length c, .slice B x.voters.length d, .slice E x.learners.length f] 68)) w.heap.size 68 #[.int .u64 (x.index : Int), .int .u64 (x.term : Int), .int .i64 x.kind, .int .i64 x.cmd.kind, .int .u64 (x.cmd.client : Int), .int .u64 (x.cmd.seq : Int), .string (strOf x.cmd.key), .int .i64 x.cmd.size, .int .u32 (x.cmd.sum : Int), .int .u64 (x.cmd.version : Int), .int .u64 (x.cmd.epoch : Int), .int .i64 x.cmd.group, .int .i64 x.cmd.node, .bool x.cmd.up, .int .u64 (x.cmd.id.ver : Int), .int .i64 x.cmd.id.idx, .int .u64 (x.cmd.id.ep : Int), .int .u64 (x.cmd.mep : Int), .slice A x.cmd.mem.length c, .slice B x.voters.length d, .slice E x.learners.length f] := Blk.new w _ _
  rw [ew0] at hb hx
  have HX0 := Lib.hid hx
  have HB0 := Lib.hid hb
  obtain ⟨ys, hys⟩ : ∃ ys, xs ++ pEnt x = ys := ⟨_, rfl⟩
  rw [hys]
  have HC := Lib.hid (wrb_entry O on oc xs A c B d E f x w0 (Lib.hid (hO.out.later hb)) (Lib.hid (hK.out.later hb)) (Lib.hid (hJ.out.later hb)) (Lib.hid (hI.out.later hb)) HO hl)
  rw [hys] at HC
  clear hx hb hys
  go_enter Try.func22, Try.ntmps22
  go_wp2_with (first
    | (refine wpl_load_blk rfl 68 (.tmp 3) rfl w.heap.size 68 _ _ rfl HX0.out Try.underlying68 rfl Try.sizeE ?_)
    | (go_at_call 50; refine HC.out.mono ?_; rintro e w1 ⟨A1, c1, rfl, r1, hb1, hu1, hu2⟩; have HR := Lib.hid (And.intro r1 hb1); have HU := Lib.hid (And.intro hu1 hu2); clear r1 hb1 hu1 hu2))
  go_ret
  exact ⟨_, _, rfl, HR.out.1, HB0.out.trans (HR.out.2.mono HB0.out.size), HU.out.1, HU.out.2⟩
theorem byt_app {a b : List Nat} (h1 : ∀ x ∈ a, x < 256) (h2 : ∀ x ∈ b, x < 256) : ∀ x ∈ a ++ b, x < 256 := fun x hx => (List.mem_append.1 hx).elim (h1 x) (h2 x)
theorem pList_byt {α : Type} {put : α → List Nat} {l : List α} (h : ∀ x ∈ l, ∀ y ∈ put x, y < 256) : ∀ y ∈ pList put l, y < 256 := byt_app (putN_byt _) (fun y hy => by obtain ⟨x, hx, hy⟩ := List.mem_flatMap.1 hy; exact h x hx y hy)
theorem pId_byt (x : IdT) : ∀ y ∈ pId x, y < 256 := byt_app (putN_byt _) (byt_app (putN_byt _) (putN_byt _))
theorem pFlag_byt (b : Bool) : ∀ y ∈ pFlag b, y < 256 := fun y hy => by unfold pFlag at hy; rw [List.mem_singleton.1 hy]; split <;> omega
theorem pMap_byt (x : Nat × List (Int × Int)) : ∀ y ∈ pMap x, y < 256 := byt_app (putN_byt _) (pList_byt fun x _ => byt_app (putN_byt _) (putN_byt _))
theorem pConf_byt (x : List Int × List Int) : ∀ y ∈ pConf x, y < 256 := byt_app (pList_byt fun x _ => putN_byt _) (pList_byt fun x _ => putN_byt _)
theorem pCmd_byt {x : CmdT} (h : CmdOk x) : ∀ y ∈ pCmd x, y < 256 :=
  byt_app (putN_byt _) (byt_app (putN_byt _) (byt_app (putN_byt _) (byt_app (byt_app (putN_byt _) h.key.1) (byt_app (putN_byt _) (byt_app (putN_byt _) (byt_app (putN_byt _) (byt_app (putN_byt _) (byt_app (putN_byt _) (byt_app (putN_byt _) (byt_app (pFlag_byt _) (byt_app (pId_byt _) (pMap_byt _))))))))))))
theorem pEnt_byt {x : EntT} (h : EntOk x) : ∀ y ∈ pEnt x, y < 256 := byt_app (putN_byt _) (byt_app (putN_byt _) (byt_app (putN_byt _) (byt_app (pCmd_byt h.cmd) (pConf_byt _))))
/-- The bytes of some entries. -/
def emB (es : List EM) : List Nat := es.flatMap fun m => pEnt m.x
theorem emB_take {es : List EM} {k : Nat} (hk : k < es.length) : emB (es.take (k + 1)) = emB (es.take k) ++ pEnt es[k].x := by
  unfold emB
  rw [List.take_succ_eq_append_getElem hk, List.flatMap_append]
  simp
theorem emB_split {es : List EM} {k : Nat} (hk : k < es.length) : emB es = emB (es.take k) ++ (pEnt es[k].x ++ emB (es.drop (k + 1))) := by
  unfold emB
  conv => lhs; rw [← List.take_append_drop k es, List.drop_eq_getElem_cons hk]
  rw [List.flatMap_append, List.flatMap_cons]
theorem emB_byt {es : List EM} (h : ∀ m ∈ es, EntOk m.x) : Byt (emB es) := by
  intro y hy
  unfold emB at hy
  obtain ⟨m, hm, hy⟩ := List.mem_flatMap.1 hy
  exact pEnt_byt (h m hm) y hy
/-- Entry k is read at its place. -/
theorem em_read {es : List EM} (h : ∀ m ∈ es, EntOk m.x) {k : Nat} (hk : k < es.length) : resOf (rEnt (emB es)) ent0 (emB es).length (((emB (es.take k)).length : Nat) : Int) = (es[k].x, (((emB (es.take (k + 1))).length : Nat) : Int), 0) := by
  have hg := (got_ent (h _ (List.getElem_mem hk))).rd (emB (es.take k)) (emB (es.drop (k + 1)))
  rw [← emB_split hk, ← emB_take hk] at hg
  exact resOf_some (by rw [emB_split hk, List.length_append]; omega) hg
theorem rdN_end (bs : List Nat) : (rdN bs (bs.length : Nat)).2.2 ≠ 0 := by
  unfold rdN
  rw [if_neg (by omega)]
  simp only [Int.toNat_natCast, List.drop_length]
  simp [rdF]
theorem em_end (bs : List Nat) : resOf (rEnt bs) ent0 bs.length ((bs.length : Nat) : Int) = (ent0, 0, 50) := by
  refine resOf_none (Nat.le_refl _) ?_
  unfold rEnt
  refine Rd.bind_none ?_
  unfold rNum
  rw [if_neg (rdN_end bs)]
end Go.Proofs.Ythgiafjiemiifaa
