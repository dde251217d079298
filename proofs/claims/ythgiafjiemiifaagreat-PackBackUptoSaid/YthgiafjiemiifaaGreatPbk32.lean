/-
  ROWS OF ENTRIES: a whole struct of a row read; an entry put; what stands at an entry's place. (printed by gen_; THE PROGRAM'S WRITER: rows of objects. (printed by gen_pas6.py); THE REFERENCE'S P, READING OR WRITING: rows of elements. (printed by gen_paq14.py). (joined out of PaE2, PaS6, PaQ14 by shake.py)
-/
import Derived.Great.BuildSlice
import Derived.Test.YthgiafjiemiifaaGreatPbk30
import Derived.Test.YthgiafjiemiifaaGreatPbk31
import Derived.Test.YthgiafjiemiifaaGreatPbk24
import Derived.Test.YthgiafjiemiifaaGreatPbk26
import Derived.Test.YthgiafjiemiifaaGreatPbk29
section
namespace Go.Proofs.YthgiafjiemiifaaGreat
open Go.RowKit OctMath
set_option linter.unusedVariables false
theorem load_at {P : Program} {w : World} {p : Addr} {ty : TypeId} {cs : List Value} {d : TypeDesc} (hc : ∀ j v, cs[j]? = some v → w.cell? (p.add j) = some v) (hu : P.underlying ty = some d) (hd : d.isRow = true) (hi : (P.info? ty).map (·.size) = some cs.length) :
    (loadVar ty p).run P w = .ok (.agg cs.toArray) w := by
  have hl : (loadCells p cs.length).run P w = .ok cs.toArray w := run_loadCells_list (P := P) w p cs hc
  cases hq : P.info? ty with
  | none => simp [hq] at hi
  | some i =>
    have hs : i.size = cs.length := by simpa [hq] using hi
    have hagg : (isAgg ty).run P w = .ok true w := by
      unfold isAgg
      rw [Sem.run_bind, run_underlying hu w]
      cases d <;> simp_all
    simp [loadVar, Sem.run_bind, hagg, sizeOf, typeInfo, hq, hs, hl]
theorem wpl_load_at {P : Program} {ops : Array Oper} {rest : List Oper} {op : Oper} {a : Act} {w : World} {Q : Exit → Act → World → Prop} (hgd : op.guard = none) (ty : TypeId) (x : Operand) (ho : op.op = .load ty x)
    (p : Addr) (cs : List Value) (d : TypeDesc) (hx : a.eval x = .pointer (some p)) (hc : ∀ j v, cs[j]? = some v → w.cell? (p.add j) = some v) (hu : P.underlying ty = some d) (hd : d.isRow = true) (hi : (P.info? ty).map (·.size) = some cs.length)
    (h : wpList P ops Q rest (a.put op.dst (.agg cs.toArray)) w) : wpList P ops Q (op :: rest) a w := by
  refine wpList_plain hgd fun K hK => ?_
  unfold Oper.wp execOp
  simp only [ho, hx, Instr.loadAt, Instr.sureAddr, Sem.run_bind, Sem.run_pure, Result.andThen_ok, load_at hc hu hd hi]
  exact hK _ _ h
theorem fill_one {cs z : Array Value} (h0 : 0 < cs.size) (h : z.size = cs.size) : Instr.fill (fun i => some (i * cs.size, cs.size)) z [(0, .agg cs)] = some cs := by
  obtain ⟨r, h1, h2, h3⟩ := Great.fill_dense h0 [.agg cs] 0 z (fun v hv => by rw [List.mem_singleton.1 hv]; rfl) (by simp [h])
  have e : r = cs := by
    apply Array.ext_getElem?
    intro k
    rw [h3 k]
    by_cases hk : k < cs.size
    · rw [if_pos (by simpa using hk), Nat.div_eq_of_lt hk, Nat.mod_eq_of_lt hk]
      rfl
    · rw [if_neg (by simpa using hk), Array.getElem?_eq_none (by omega), Array.getElem?_eq_none (by omega)]
  rw [e] at h1
  exact h1
theorem Tryz.infoEnt : (Tryz.prog.info? 38).map (fun i => (i.zero.map (·.cells.size), i.size)) = some (some 21, 21) := by kernel_rfl
/-- A row of one entry is made. -/
theorem wp_build1 {op : Oper} {a : Act} {w : World} {K : Act → World → Prop} {Q : Exit → Act → World → Prop} (x : Operand) (ho : op.op = .buildSlice 45 1 #[(0, x)]) (cs : Array Value) (hcs : cs.size = 21) (hx : a.eval x = .agg cs)
    (h : K (a.put op.dst (.slice (some ⟨w.heap.size, 0, none⟩) 1 1)) (w.alloc (.cells cs 38))) : op.wp Tryz.prog a w K Q := by
  have hi := Tryz.infoEnt
  cases q1 : Tryz.prog.info? 38 with
  | none => rw [q1] at hi; cases hi
  | some ii =>
    rw [q1] at hi
    simp only [Option.map_some, Option.some.injEq, Prod.mk.injEq] at hi
    obtain ⟨hz, q3⟩ := hi
    obtain ⟨z, q2, hzs⟩ := Option.map_eq_some_iff.1 hz
    refine wp_buildSlice 45 38 1 #[(0, x)] ho cs ii z Tryz.underlying45 q1 q2 (by rw [q3]; decide) (by rw [q3]; decide) ?_ h
    rw [q3]
    have e1 : ((#[(0, x)] : Array (Nat × Operand)).map fun (i, x) => (i, a.eval x)).toList = [(0, Value.agg cs)] := by simp [hx]
    rw [e1, ← hcs]
    exact fill_one (by omega) (by simp [hcs])
theorem flat_get {α β : Type} {cells : α → List β} {size : Nat} (hl : ∀ a, (cells a).length = size) : ∀ (l : List α) (i : Nat) (hi : i < l.length) (j : Nat), j < size → (l.flatMap cells)[i * size + j]? = (cells l[i])[j]?
  | [], i, hi, _, _ => by simp at hi
  | p :: l, i, hi, j, hj => by
    rw [List.flatMap_cons]
    cases i with
    | zero => rw [Nat.zero_mul, Nat.zero_add, List.getElem?_append_left (by rw [hl]; exact hj)]; rfl
    | succ i =>
      rw [List.getElem?_append_right (by rw [hl, Nat.succ_mul]; omega), hl, show (i + 1) * size + j - size = i * size + j by rw [Nat.succ_mul]; omega]
      exact flat_get hl l i (by simpa using hi) j hj
theorem byt_app {a b : List Nat} (h1 : ∀ x ∈ a, x < 256) (h2 : ∀ x ∈ b, x < 256) : ∀ x ∈ a ++ b, x < 256 := fun x hx => (List.mem_append.1 hx).elim (h1 x) (h2 x)
theorem pList_byt {α : Type} {put : α → List Nat} {l : List α} (h : ∀ x ∈ l, ∀ y ∈ put x, y < 256) : ∀ y ∈ pList put l, y < 256 := byt_app (putN_byt _) (fun y hy => by obtain ⟨x, hx, hy⟩ := List.mem_flatMap.1 hy; exact h x hx y hy)
theorem pId_byt (x : IdT) : ∀ y ∈ pId x, y < 256 := byt_app (putN_byt _) (byt_app (putN_byt _) (putN_byt _))
theorem pFlag_byt (b : Bool) : ∀ y ∈ pFlag b, y < 256 := fun y hy => by unfold pFlag at hy; rw [List.mem_singleton.1 hy]; split <;> omega
theorem pMap_byt (x : Nat × List (Int × Int)) : ∀ y ∈ pMap x, y < 256 := byt_app (putN_byt _) (pList_byt fun x _ => byt_app (putN_byt _) (putN_byt _))
theorem pConf_byt (x : List Int × List Int) : ∀ y ∈ pConf x, y < 256 := byt_app (pList_byt fun x _ => putN_byt _) (pList_byt fun x _ => putN_byt _)
theorem pCmd_byt {x : CmdT} (h : CmdOk x) : ∀ y ∈ pCmd x, y < 256 :=
  byt_app (putN_byt _) (byt_app (putN_byt _) (byt_app (putN_byt _) (byt_app (byt_app (putN_byt _) h.key.1) (byt_app (putN_byt _) (byt_app (putN_byt _) (byt_app (putN_byt _) (byt_app (putN_byt _) (byt_app (putN_byt _) (byt_app (putN_byt _) (byt_app (pFlag_byt _) (byt_app (pId_byt _) (pMap_byt _))))))))))))
theorem pEnt_byt {x : EntT} (h : EntOk x) : ∀ y ∈ pEnt x, y < 256 := byt_app (putN_byt _) (byt_app (putN_byt _) (byt_app (putN_byt _) (byt_app (pCmd_byt h.cmd) (pConf_byt _))))
end Go.Proofs.YthgiafjiemiifaaGreat
end
section
namespace Go.Proofs.YthgiafjiemiifaaGreat
open Go.RowKit OctMath
set_option linter.unusedVariables false
/-- Element k of a row: its cells. -/
theorem row_cells {α : Type} {cells : α → List Value} {size : Nat} (hl : ∀ a, (cells a).length = size) {w : World} {ad : Addr} {es : List α} (hr : ∀ j u, (es.flatMap cells)[j]? = some u → w.cell? (ad.add j) = some u) {k : Nat} (hk : k < es.length) : ∀ j v, (cells es[k])[j]? = some v → w.cell? ((ad.add (k * size)).add j) = some v := by
  intro j v hv
  have hj : j < size := by rw [← hl es[k]]; exact (List.getElem?_eq_some_iff.1 hv).1
  rw [Go.Deep.add_add]
  refine hr _ _ ?_
  rw [flat_get hl es k hk j hj]
  exact hv
set_option maxRecDepth 100000 in
set_option maxHeartbeats 4000000 in
theorem sh_objs (H : Nat → Prop) (g : Nat) (xs : List Nat) (A : Option Addr) (n cap : Nat) (l : List OM) (w : World) (hp : Hid (Sh H g xs w)) (hS : Hid (Safe H g w)) (hL : Hid (Reads w w.heap.size 7 A n (l.flatMap omCs))) (hH : Hid (0 < n → ∀ ad, A = some ad → H ad.block)) (hn : Hid (l.length = n)) (hn2 : n ≤ 1048576) (hI : Hid (∀ m ∈ l, ObjOk m.x ∧ Reads w w.heap.size 1 m.A m.x.nodes.length (m.x.nodes.map iv) ∧ (0 < m.x.nodes.length → ∀ ad, m.A = some ad → H ad.block))) (hl : xs.length + 12094799872010 ≤ 70000000000000) :
    Calls Tryz.prog 73 #[.pointer (some ⟨g, 0, none⟩), .slice A n cap, .func (.func 74) #[.pointer (some ⟨g, 0, none⟩)] #[]] w (RetW H g (xs ++ pList pObj (l.map (·.x))) w) := by
  have e1 : IntKind.u64.wrap (n : Int) = (n : Int) := by rw [IntKind.wrap_u64]; omega
  have HC := Lib.hid (sh_number H g xs n w hp hS (by omega) (by omega))
  have HN10 := Lib.hid (putN_len10 (n := n) (by omega))
  go_enter Tryz.func73, Tryz.ntmps73
  go_wp2_with fail
  refine HC.out.mono ?_
  rintro e w1 ⟨rfl, h1, h2⟩
  have HP1 := Lib.hid h1
  have HK1 := Lib.hid h2
  clear h1 h2 HC e1
  go_wp2
  go_loopw [7, 15] (fun vx vi wr => ∃ (k : Nat) (ys : List Nat), k ≤ n ∧ vi = .int .i64 k ∧ Hid (ys = xs ++ (putN n ++ (l.take k).flatMap fun m => pObj m.x)) ∧ Hid (Sh H g ys wr) ∧ Hid (Keep H w wr)) (fun _ vi _ => n - (intOf vi).toNat)
  case atStart => exact ⟨0, xs ++ putN n, by omega, rfl, Lib.hid (by simp), HP1, HK1⟩
  case round =>
    obtain ⟨k, ys, hk, rfl, hy, hs, hkp⟩ := hrel
    by_cases hlt : k < n
    · have d1 : decide (k < n) = true := decide_eq_true hlt
      have hkl : k < l.length := by have := hn.out; omega
      have hyl : ys.length ≤ xs.length + 10 + 11534500 * k := by
        have h1 := flat_len (fun m : OM => pObj m.x) 11534500 (l.take k) (fun m hm => pObj_len (hI.out m (List.mem_of_mem_take hm)).1)
        rw [List.length_take] at h1
        have h3 := HN10.out
        rw [hy.out, List.length_append, List.length_append]
        have : 11534500 * min k l.length ≤ 11534500 * k := Nat.mul_le_mul_left _ (Nat.min_le_left _ _)
        omega
      have HYB := Lib.hid (show ys.length + 11534500 ≤ 70000000000000 from by omega)
      clear hyl
      have hm0 := List.getElem_mem hkl
      have hy2 : ys ++ pObj (l[k]).x = xs ++ (putN n ++ (l.take (k + 1)).flatMap fun m => pObj m.x) := by
        rw [hy.out, List.take_succ_eq_append_getElem hkl, List.flatMap_append]
        simp only [List.append_assoc, List.flatMap_cons, List.flatMap_nil, List.append_nil]
      obtain ⟨ad, hA, hbl, hc⟩ := (hkp.out.reads hL.out hH.out).2 (by omega : 0 < n)
      have hrow := row_cells (cells := omCs) (size := 7) (fun _ => rfl) hc hkl
      obtain ⟨m, hm⟩ : ∃ m, l[k] = m := ⟨_, rfl⟩
      rw [hm] at hm0 hrow hy2
      have HROW := Lib.hid hrow
      have HY2 := Lib.hid hy2
      have HM := Lib.hid (hI.out m hm0)
      subst hA
      clear hm0 hrow hy2 hm hc hbl
      go_wp2_with (first
        | (refine wpl_load_at rfl 63 (.tmp 17) rfl (ad.add (k * 7)) (#[.string (strOf m.x.key), .int .u64 (m.x.version : Int), .int .i64 m.x.size, .int .u32 (m.x.sum : Int), .int .i64 m.x.group, .int .u64 (m.x.epoch : Int), .slice m.A m.x.nodes.length m.c] : Array Value).toList _ rfl HROW.out Tryz.underlying63 rfl Tryz.sizeO ?_)
        | (refine wpl_store_blk rfl 63 (.tmp 7) (.tmp 18) rfl wr.heap.size 63 #[.string ⟨#[]⟩, .int .u64 0, .int .i64 0, .int .u32 0, .int .i64 0, .int .u64 0, .slice none 0 0] #[.string (strOf m.x.key), .int .u64 (m.x.version : Int), .int .i64 m.x.size, .int .u32 (m.x.sum : Int), .int .i64 m.x.group, .int .u64 (m.x.epoch : Int), .slice m.A m.x.nodes.length m.c] rfl rfl (Blk.new wr _ _) rfl Tryz.sizeO rfl ?_; intro wb hB1 hO1
           have hsb : Below wr.heap.size wr wb := ((Below.refl _ _).alloc (Nat.le_refl _) _).trans (hO1.out.below (Nat.le_refl _))
           have HS5 := Lib.hid (hs.out.later hsb)
           have HF5 := Lib.hid ((hS.out.keep hkp.out).keep (Keep.below hsb))
           have HKA0 := Lib.hid (hkp.out.trans (Keep.below hsb))
           clear hsb hO1)
        | (refine wpl_load_blk rfl 63 (.tmp 7) rfl wr.heap.size 63 #[.string (strOf m.x.key), .int .u64 (m.x.version : Int), .int .i64 m.x.size, .int .u32 (m.x.sum : Int), .int .i64 m.x.group, .int .u64 (m.x.epoch : Int), .slice m.A m.x.nodes.length m.c] _ rfl hB1.out Tryz.underlying63 rfl Tryz.sizeO ?_)
        | (go_at_call 74; refine (sh_object H g ys m.A m.c m.x wb HS5 HF5 (Lib.hid (HKA0.out.reads HM.out.2.1 HM.out.2.2)) (Lib.hid HM.out.2.2) HM.out.1 HYB.out).mono ?_; rintro e w3 ⟨rfl, h3⟩; have HR := Lib.hid h3; clear h3))
      exact ⟨⟨k + 1, _, by omega, by go_num, HY2, Lib.hid HR.out.1, Lib.hid (HKA0.out.trans HR.out.2)⟩, by simp [intOf]; omega⟩
    · obtain rfl : k = n := by omega
      go_wp2
      go_end0
      refine ⟨rfl, ?_, hkp.out⟩
      have h := hy.out
      rw [List.take_of_length_le (by rw [hn.out]; exact Nat.le_refl _)] at h
      have e : xs ++ pList pObj (l.map (·.x)) = ys := by
        rw [h]
        unfold pList
        rw [List.length_map, hn.out, List.flatMap_map]
      rw [e]
      exact hs.out
end Go.Proofs.YthgiafjiemiifaaGreat
end
section
namespace Go.Proofs.YthgiafjiemiifaaGreat
open Go.RowKit OctMath
set_option linter.unusedVariables false
variable {σ : Type}
theorem getD_all {α : Type} {P : α → Prop} {l : List α} {z : α} (h : ∀ x ∈ l, P x) (hz : P z) (i : Nat) : P (l.getD i z) := by
  rw [List.getD_eq_getElem?_getD]
  cases e : l[i]? with
  | none => exact hz
  | some x => exact h x (List.mem_of_getElem? e)
theorem getD_map' {α β : Type} (f : α → β) (l : List α) (z : α) (i : Nat) : (l.map f).getD i (f z) = f (l.getD i z) := by
  rw [List.getD_eq_getElem?_getD, List.getD_eq_getElem?_getD, List.getElem?_map]
  cases l[i]? <;> rfl
abbrev Row := Option Addr × Nat × List Int
/-- Rows of the elements of a list that comes in. -/
structure InsL (M : Md σ) (hi : Nat) (l : List Row) (w : World) : Prop where
  all : ∀ m ∈ l, Ls M 1 m.1 m.2.2.length (m.2.2.map iv) w ∧ (0 < m.2.2.length → ∀ ad, m.1 = some ad → ad.block < hi)
variable {M : Md σ} {hi lo b : Nat} {l : List Row} {w w' : World} {s : σ} {v v' : Value}
theorem InsL.call (h : InsL M hi l w) (k : Stp M w w') : InsL M hi l w' := ⟨fun m hm => ⟨(h.all m hm).1.call k, (h.all m hm).2⟩⟩
theorem InsL.alloc (hM : MdOk M) (h : InsL M hi l w) (hs : M.St s w) (o : Obj) : InsL M hi l (w.alloc o) := ⟨fun m hm => ⟨(h.all m hm).1.alloc hM hs o, (h.all m hm).2⟩⟩
theorem InsL.only (hM : MdOk M) (h : InsL M hi l w) (hs : M.St s w) (ho : Only b w w') (hf : Free M b w) (ha : ApL b l) : InsL M hi l w' := ⟨fun m hm => ⟨(h.all m hm).1.only hM hs ho hf (ha m hm), (h.all m hm).2⟩⟩
theorem InsL.apart (h : InsL M hi l w) (hb : w.heap.size ≤ b) : ApL b l := fun m hm => (h.all m hm).1.apart hb
theorem InsL.more (hM : MdOk M) {w0 w1 : World} {t : TypeId} {size k : Nat} {xs : List Value} (h : Gr M w0 w1 t size v k xs s w) (hg : w.grownBy w' v.ownBlock) (hL : InsL M w1.heap.size l w) : InsL M w1.heap.size l w' := ⟨fun m hm => ⟨Ls.more hM h hg (hL.all m hm).1 (hL.all m hm).2, (hL.all m hm).2⟩⟩
/-- Rows of the elements of a list that grows. -/
structure Sbs (M : Md σ) (lo : Nat) (v : Value) (l : List Row) (w : World) : Prop where
  all : ∀ m ∈ l, Lx M lo 1 m.1 m.2.1 m.2.2.length (m.2.2.map iv) w ∧ Off v m.2.2.length m.1
theorem Sbs.nil (M : Md σ) (lo : Nat) (v : Value) (w : World) : Sbs M lo v [] w := ⟨fun m h => by cases h⟩
theorem Sbs.call (h : Sbs M lo v l w) (k : Stp M w w') : Sbs M lo v l w' := ⟨fun m hm => ⟨(h.all m hm).1.call k, (h.all m hm).2⟩⟩
theorem Sbs.alloc (hM : MdOk M) (h : Sbs M lo v l w) (hs : M.St s w) (o : Obj) : Sbs M lo v l (w.alloc o) := ⟨fun m hm => ⟨(h.all m hm).1.alloc hM hs o, (h.all m hm).2⟩⟩
theorem Sbs.only (hM : MdOk M) (h : Sbs M lo v l w) (hs : M.St s w) (ho : Only b w w') (hf : Free M b w) (ha : ApL b l) : Sbs M lo v l w' := ⟨fun m hm => ⟨⟨(h.all m hm).1.ls.only hM hs ho hf (ha m hm), (h.all m hm).1.lo, (h.all m hm).1.kc, (h.all m hm).1.cm⟩, (h.all m hm).2⟩⟩
theorem Sbs.apart (h : Sbs M lo v l w) (hb : w.heap.size ≤ b) : ApL b l := fun m hm => (h.all m hm).1.ls.apart hb
theorem Sbs.more (hM : MdOk M) {w0 w1 : World} {t : TypeId} {size k : Nat} {xs : List Value} (h : Gr M w0 w1 t size v k xs s w) (hg : w.grownBy w' v.ownBlock) (hv : v'.ownBlock = v.ownBlock ∨ v'.ownBlock = some w.heap.size) (hS : Sbs M lo v l w) : Sbs M lo v' l w' := by
  refine ⟨fun m hm => ?_⟩
  obtain ⟨h1, h2⟩ := hS.all m hm
  refine ⟨⟨h1.ls.grown hM h.wk.st hg h.free (fun hn ad e e' => h2 hn ad e e'), h1.lo, h1.kc, h1.cm⟩, fun hn ad e => ?_⟩
  rcases hv with hv | hv
  · rw [hv]; exact h2 hn ad e
  · have := (h1.ls.free hn ad e).lt
    rw [hv]; intro e'; injection e' with e'; omega
theorem Sbs.add {r : Row} (h : Sbs M lo v l w) (hr : Lx M lo 1 r.1 r.2.1 r.2.2.length (r.2.2.map iv) w ∧ Off v r.2.2.length r.1) : Sbs M lo v (l ++ [r]) w := ⟨fun m hm => by
  rcases List.mem_append.1 hm with hm | hm
  · exact h.all m hm
  · rw [List.mem_singleton.1 hm]; exact hr⟩
/-- Rows of the elements of a list of one's own. -/
structure LxL (M : Md σ) (lo : Nat) (l : List Row) (w : World) : Prop where
  all : ∀ r ∈ l, Lx M lo 1 r.1 r.2.1 r.2.2.length (r.2.2.map iv) w
theorem LxL.call (h : LxL M lo l w) (k : Stp M w w') : LxL M lo l w' := ⟨fun r hr => (h.all r hr).call k⟩
theorem LxL.mono {lo' : Nat} (h : LxL M lo l w) (hl : lo' ≤ lo) : LxL M lo' l w := ⟨fun r hr => (h.all r hr).mono hl⟩
theorem LxL.only (hM : MdOk M) (h : LxL M lo l w) (hs : M.St s w) (ho : Only b w w') (hf : Free M b w) (hb : b < lo) : LxL M lo l w' := ⟨fun r hr => (h.all r hr).only hM hs ho hf hb⟩
theorem InsL.hi_ {hi' : Nat} (h : InsL M hi l w) (hh : hi ≤ hi') : InsL M hi' l w := ⟨fun m hm => ⟨(h.all m hm).1, fun h0 ad e => Nat.lt_of_lt_of_le ((h.all m hm).2 h0 ad e) hh⟩⟩
/-- A row that was made behind the list has a block of its own. -/
theorem Gr.off_new {w0 w1 : World} {t : TypeId} {size k : Nat} {xs : List Value} (h : Gr M w0 w1 t size v k xs s w) {n : Nat} {A : Option Addr} (hl : 0 < n → ∀ ad, A = some ad → w.heap.size ≤ ad.block) : Off v n A := fun hn ad e e' => by have := (h.own.lt _ e').2; have := hl hn ad e; omega
theorem wpl_gr3 (hM : MdOk M) {ops : Array Oper} {rest : List Oper} {o : Oper} {a : Act} {Q : Exit → Act → World → Prop} {w0 w1 wr : World} {te : TypeId} {size : Nat} {k : Nat} {xs : List Value} {st : σ} (hg : o.guard = none) (s x : Operand) (ts : TypeId) (z : Value) (bytes : Nat)
    (hts : Tryz.prog.underlying ts = some (.slice te)) (hinfo : (Tryz.prog.info? te).map (fun i => (i.zero, i.size, i.bytes)) = some (some z, size, bytes)) (hz : z.cells.size = size) (h0 : 0 < size) (hb0 : 0 < bytes)
    (ho : o.op = .call { callee := .builtin .append, args := #[s, x], argTypes := #[ts, ts] }) (hst : Gr M w0 w1 te size v k xs st wr) (hl : (k + 1) * bytes ≤ 140737488355328) (us : List Value) (hus : us.length = 1 * size) (hu : ∀ u ∈ us, u.oneCell' = true) (hs : a.eval s = v) (hx : a.eval x = .slice (some ⟨wr.heap.size, 0, none⟩) 1 1)
    (h : ∀ v' w', Hid (Gr M w0 w1 te size v' (k + 1) (xs ++ us) st w' ∧ (wr.alloc (.cells us.toArray te)).grownBy w' v.ownBlock) → Hid (v'.ownBlock = v.ownBlock ∨ v'.ownBlock = some (wr.alloc (.cells us.toArray te)).heap.size) → wpList Tryz.prog ops Q rest (a.put o.dst v') w') : wpList Tryz.prog ops Q (o :: rest) a (wr.alloc (.cells us.toArray te)) := by
  obtain ⟨ii, q1, q2, q3, q4⟩ := info_parts hinfo
  have hst' := hst.alloc hM (.cells us.toArray te)
  have e : (wr.alloc (.cells us.toArray te)).heap.size = wr.heap.size + 1 := by simp
  have hk : (k + 1) ≤ maxLen := by
    unfold maxLen
    have : (k + 1) * 1 ≤ (k + 1) * bytes := Nat.mul_le_mul_left _ hb0
    omega
  exact wpList_append_any _ hg s x ts ho w1.heap.size te ii z size bytes hts q1 q2 q3 q4 hz h0 v k xs hs hst'.own (wr.heap.size + 1) (some ⟨wr.heap.size, 0, none⟩) 1 1 us hx (Reads.lit wr te us size 1 hus) hu hk hl (by have := hst.hi; omega) (fun v' w' h1 h2 h3 => h v' w' (Lib.hid ⟨hst'.more hM hst'.hi h1 h2 h3, h2⟩) (Lib.hid h3))
theorem cells_below' {w : World} {p : Addr} {cs : List Value} (h : ∀ j v, cs[j]? = some v → w.cell? (p.add j) = some v) (hp : p.block < w.heap.size) : ∀ W, Below w.heap.size w W → ∀ j v, cs[j]? = some v → W.cell? (p.add j) = some v := fun W hb j v hv => (hb.cell (p := p.add j) (by rw [block_of_add]; exact hp)).trans (h j v hv)
end Go.Proofs.YthgiafjiemiifaaGreat
end
