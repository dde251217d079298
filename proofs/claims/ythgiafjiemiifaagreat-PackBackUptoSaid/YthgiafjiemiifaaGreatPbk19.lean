/-
  WHAT THE REFERENCE'S P COMES TO: writing, it puts; reading, it reads. Plain; THE REFERENCE'S WRITER: the exported functions; what is the same. (printed by gen_pas4.py); THE REFERENCE: what is the same. (printed by gen_pas4.py). (joined out of PaQ9, PaQ10, PaQ12 by shake.py)
-/
import Derived.Test.YthgiafjiemiifaaGreatPbk16
import Derived.Test.YthgiafjiemiifaaGreatPbk15
import Derived.Test.YthgiafjiemiifaaGreatPbk18
section
namespace Go.Proofs.YthgiafjiemiifaaGreat
open Go.RowKit OctMath
set_option linter.unusedVariables false
set_option linter.unusedSectionVars false
/-! ### Writing -/
theorem w_it {α β : Type} (g : Nat) {one : List Nat → α → List Nat × β} {put : α → List Nat} (h : ∀ s x, (one s x).1 = s ++ put x) (l : List α) (z : α) (s : List Nat) : ∀ k, k ≤ l.length → (itF (wMd g) one (fun i => l.getD i z) k s).1 = s ++ (l.take k).flatMap put
  | 0, _ => by simp [itF]
  | k + 1, hk => by
    have ih := w_it g h l z s k (by omega)
    show (if false = true then _ else _ : List Nat × List β).1 = _
    rw [if_neg (by simp), h, ih, flat_take put l z k (by omega), List.append_assoc]
theorem w_ints (g : Nat) (s : List Nat) (l : List Int) : (intsF (wMd g) s l).1 = s ++ pList pInt l := by
  have h := w_it g (one := (wMd g).int) (put := pInt) (fun s x => rfl) l 0 (s ++ putN l.length) l.length (Nat.le_refl _)
  rw [List.take_length] at h
  show (itF (wMd g) (wMd g).int (fun i => l.getD i 0) l.length (s ++ putN l.length)).1 = _
  rw [h]; unfold pList; rw [List.append_assoc]
theorem w_id (g : Nat) (s : List Nat) (x : IdT) : (idF (wMd g) s x).1 = s ++ pId x := by
  simp only [idF, bnd, wMd, pId, pInt, List.append_assoc]
theorem w_conf (g : Nat) (s : List Nat) (x : List Int × List Int) : (confF (wMd g) s x).1 = s ++ pConf x := by
  show (intsF (wMd g) (intsF (wMd g) s x.1).1 x.2).1 = _
  rw [w_ints, w_ints]; unfold pConf; rw [List.append_assoc]
theorem w_mem (g : Nat) (s : List Nat) (x : Int × Int) : (memF (wMd g) s x).1 = s ++ pMem x := by
  simp only [memF, bnd, wMd, pMem, pInt, List.append_assoc]
theorem w_mems (g : Nat) (s : List Nat) (l : List (Int × Int)) : (memsF (wMd g) s l).1 = s ++ pList pMem l := by
  have h := w_it g (one := memF (wMd g)) (put := pMem) (fun s x => w_mem g s x) l (0, 0) (s ++ putN l.length) l.length (Nat.le_refl _)
  rw [List.take_length] at h
  show (itF (wMd g) (memF (wMd g)) (fun i => l.getD i (0, 0)) l.length (s ++ putN l.length)).1 = _
  rw [h]; unfold pList; rw [List.append_assoc]
theorem w_map (g : Nat) (s : List Nat) (x : Nat × List (Int × Int)) : (mapF (wMd g) s x).1 = s ++ pMap x := by
  show (memsF (wMd g) (s ++ putN x.1) x.2).1 = _
  rw [w_mems]; unfold pMap; rw [List.append_assoc]
theorem w_flag (b : Bool) : [b.toNat] = pFlag b := by cases b <;> rfl
theorem w_cmd (g : Nat) (s : List Nat) (x : CmdT) : (cmdF (wMd g) s x).1 = s ++ pCmd x := by
  show (mapF (wMd g) (idF (wMd g) (s ++ putN (zz x.kind) ++ putN x.client ++ putN x.seq ++ (putN x.key.length ++ x.key) ++ putN (zz x.size) ++ putN x.sum ++ putN x.version ++ putN x.epoch ++ putN (zz x.group) ++ putN (zz x.node) ++ [x.up.toNat]) x.id).1 (x.mep, x.mem)).1 = _
  rw [w_map, w_id, w_flag]
  simp only [pCmd, pInt, pText, List.append_assoc]
theorem w_ent (g : Nat) (s : List Nat) (x : EntT) : (entF (wMd g) s x).1 = s ++ pEnt x := by
  show (confF (wMd g) (cmdF (wMd g) (s ++ putN x.index ++ putN x.term ++ putN (zz x.kind)) x.cmd).1 (x.voters, x.learners)).1 = _
  rw [w_conf, w_cmd]
  simp only [pEnt, pInt, List.append_assoc]
/-! ### Reading -/
abbrev RS_ := Int × Bool
/-- F sees what r reads. -/
structure Sees {α : Type} (F : RS_ → RS_ × α) (r : Rd α) : Prop where
  good : ∀ p y q, r p = some (y, q) → F ((p : Int), false) = (((q : Int), false), y)
  fail : ∀ p, r p = none → (F ((p : Int), false)).1.2 = true
  bad : ∀ q : Int, (F (q, true)).1.2 = true
/-- Out of range nothing is seen. -/
def Outs {α : Type} (n : Nat) (F : RS_ → RS_ × α) : Prop := ∀ q : Int, q < 0 ∨ (n : Int) < q → (F (q, false)).1.2 = true
theorem state_eq {s : RS_} (h : s.2 = true) : s = (s.1, true) := by rw [← h]
theorem Sees.pure {α : Type} (x : α) : Sees (fun s => (s, x)) (Rd.pure x) := ⟨fun p y q h => by cases h; rfl, fun p h => (by cases h), fun _ => rfl⟩
theorem Sees.bind {α β : Type} {F : RS_ → RS_ × α} {r : Rd α} {G : RS_ → α → RS_ × β} {k : α → Rd β} (h : Sees F r) (hk : ∀ x, Sees (fun s => G s x) (k x)) : Sees (fun s => bnd (F s) G) (r.bind k) := by
  refine ⟨fun p y q e => ?_, fun p e => ?_, fun q => ?_⟩
  · unfold Rd.bind at e
    cases h1 : r p with
    | none => rw [h1] at e; cases e
    | some v =>
      obtain ⟨x, p1⟩ := v
      rw [h1] at e
      show bnd (F ((p : Int), false)) G = _
      rw [h.good p x p1 h1, bnd_mk]
      exact (hk x).good p1 y q e
  · show (bnd (F ((p : Int), false)) G).1.2 = true
    unfold Rd.bind at e
    cases h1 : r p with
    | none =>
      have hb := h.fail p h1
      generalize F ((p : Int), false) = r2 at hb ⊢
      obtain ⟨s, x⟩ := r2
      have hb : s.2 = true := hb
      rw [bnd_mk]
      rw [state_eq hb]
      exact (hk x).bad _
    | some v =>
      obtain ⟨x, p1⟩ := v
      rw [h1] at e
      rw [h.good p x p1 h1, bnd_mk]
      exact (hk x).fail p1 e
  · show (bnd (F (q, true)) G).1.2 = true
    have hb := h.bad q
    generalize F (q, true) = r2 at hb ⊢
    obtain ⟨s, x⟩ := r2
    have hb : s.2 = true := hb
    rw [bnd_mk]
    rw [state_eq hb]
    exact (hk x).bad _
theorem Outs.bind {α β : Type} {n : Nat} {F : RS_ → RS_ × α} {G : RS_ → α → RS_ × β} {k : α → Rd β} (h : Outs n F) (hk : ∀ x, Sees (fun s => G s x) (k x)) : Outs n (fun s => bnd (F s) G) := fun q hq => by
  show (bnd (F (q, false)) G).1.2 = true
  have hb := h q hq
  generalize F (q, false) = r2 at hb ⊢
  obtain ⟨s, x⟩ := r2
  have hb : s.2 = true := hb
  rw [bnd_mk]
  rw [state_eq hb]
  exact (hk x).bad _
section
variable {bs : List Nat} (hb : Byt bs)
include hb
end
section
variable {g n cap : Nat} {A : Option Addr} {bs : List Nat} (hb : Byt bs)
include hb
def id0 : IdT := ⟨0, 0, 0⟩
def hd0 : HdT := ⟨id0, 0, 0, 0, 0⟩
def cmd0 : CmdT := ⟨0, 0, 0, [], 0, 0, 0, 0, 0, 0, false, id0, 0, []⟩
def ent0 : EntT := ⟨0, 0, 0, cmd0, [], []⟩
end
end Go.Proofs.YthgiafjiemiifaaGreat
end
section
namespace Go.Proofs.YthgiafjiemiifaaGreat
open Go.RowKit OctMath
set_option linter.unusedVariables false
theorem pen_free {g k B : Nat} {xs : List Nat} {w : World} (h : Pen (fun k => k < B) g xs w) (hk : k < B) (hB : B ≤ w.heap.size) (hg : B ≤ g) : Free (wMd g) k w := by
  obtain ⟨v, hBk, hO, hne, hh⟩ := h.out
  have h0 : w.cell? ⟨g, 0, none⟩ = some v := hBk.cell 0
  have hn : ¬ (k = g ∨ ∃ u, w.cell? ⟨g, 0, none⟩ = some u ∧ u.ownBlock = some k) := by
    rintro (e | ⟨u, hu, e⟩)
    · omega
    · rw [h0] at hu
      injection hu with hu
      subst hu
      exact hh k hk e
  exact ⟨by omega, hn, hn⟩
theorem stp_below {σ : Type} {M : Md σ} {w w' : World} {B : Nat} (h : Stp M w w') (hB : B ≤ w.heap.size) (hf : ∀ k, k < B → ¬ M.wr w k) : Below B w w' := ⟨h.os, h.tape, h.output, h.size, fun k hk => h.block k (by omega) (hf k hk)⟩
set_option maxRecDepth 100000 in
set_option maxHeartbeats 4000000 in
theorem rput_cmd (A : Option Addr) (c : Nat) (x : CmdT) (w : World) (hK : Hid (Reads w w.heap.size 2 A x.mem.length (mcells x.mem))) (HO : CmdOk x) :
    Calls Tryz.prog 40 #[.slice none 0 0, .agg #[.int .i64 x.kind, .int .u64 (x.client : Int), .int .u64 (x.seq : Int), .string (strOf x.key), .int .i64 x.size, .int .u32 (x.sum : Int), .int .u64 (x.version : Int), .int .u64 (x.epoch : Int), .int .i64 x.group, .int .i64 x.node, .bool x.up, .int .u64 (x.id.ver : Int), .int .i64 x.id.idx, .int .u64 (x.id.ep : Int), .int .u64 (x.mep : Int), .slice A x.mem.length c]] w (RetO (pCmd x) w) := by
  obtain ⟨ys, hys⟩ : ∃ ys, pCmd x = ys := ⟨_, rfl⟩
  have HYS := Lib.hid hys
  rw [hys]
  clear hys
  obtain ⟨w0, ew0⟩ : ∃ w0, w.alloc (.cells #[.int .i64 x.kind, .int .u64 (x.client : Int), .int .u64 (x.seq : Int), .string (strOf x.key), .int .i64 x.size, .int .u32 (x.sum : Int), .int .u64 (x.version : Int), .int .u64 (x.epoch : Int), .int .i64 x.group, .int .i64 x.node, .bool x.up, .int .u64 (x.id.ver : Int), .int .i64 x.id.idx, .int .u64 (x.id.ep : Int), .int .u64 (x.mep : Int), .slice A x.mem.length c] 33) = w0 := ⟨_, rfl⟩
  have hb : Below w.heap.size w (w.alloc (.cells #[.int .i64 x.kind, .int .u64 (x.client : Int), .int .u64 (x.seq : Int), .string (strOf x.key), .int .i64 x.size, .int .u32 (x.sum : Int), .int .u64 (x.version : Int), .int .u64 (x.epoch : Int), .int .i64 x.group, .int .i64 x.node, .bool x.up, .int .u64 (x.id.ver : Int), .int .i64 x.id.idx, .int .u64 (x.id.ep : Int), .int .u64 (x.mep : Int), .slice A x.mem.length c] 33)) := (Below.refl _ _).alloc (Nat.le_refl _) _
  have hx : Blk (w.alloc (.cells #[.int .i64 x.kind, .int .u64 (x.client : Int), .int .u64 (x.seq : Int), .string (strOf x.key), .int .i64 x.size, .int .u32 (x.sum : Int), .int .u64 (x.version : Int), .int .u64 (x.epoch : Int), .int .i64 x.group, .int .i64 x.node, .bool x.up, .int .u64 (x.id.ver : Int), .int .i64 x.id.idx, .int .u64 (x.id.ep : Int), .int .u64 (x.mep : Int), .slice A x.mem.length c] 33)) w.heap.size 33 #[.int .i64 x.kind, .int .u64 (x.client : Int), .int .u64 (x.seq : Int), .string (strOf x.key), .int .i64 x.size, .int .u32 (x.sum : Int), .int .u64 (x.version : Int), .int .u64 (x.epoch : Int), .int .i64 x.group, .int .i64 x.node, .bool x.up, .int .u64 (x.id.ver : Int), .int .i64 x.id.idx, .int .u64 (x.id.ep : Int), .int .u64 (x.mep : Int), .slice A x.mem.length c] := Blk.new w _ _
  rw [ew0] at hb hx
  have HB0 := Lib.hid hb
  have HX0 := Lib.hid hx
  clear hb hx
  have HPF := Lib.hid (fun (g : Nat) (w1 : World) hS hK1 => pf_cmd (wMd g) (wMd_ok g) [] A c x w1 hS hK1 HO (Lib.hid (fun h => by cases h)) (Lib.hid (by show 0 + 22020400 ≤ 70000000000000; omega)))
  go_enter Tryz.func40, Tryz.ntmps40
  go_wp2_with (first
    | (go_at_call 49; refine (pen_writer none 0 0 [] _ Reads.none_ (by omega)).mono ?_; rintro en w1 ⟨g, rfl, hg, hb, hp⟩
       have HB4 := Lib.hid (HB0.out.trans (hb.mono HB0.out.size))
       have HP1 := Lib.hid (hp.mono (H' := fun k => k < w.heap.size) (fun k hk => .inl (Nat.lt_of_lt_of_le hk HB0.out.size)))
       have HGE := Lib.hid (show w.heap.size ≤ g from Nat.le_trans HB0.out.size hg)
       have HX1 := Lib.hid (HX0.out.below hb HX0.out.lt)
       clear hg hb hp ew0)
    | (refine wpl_load_blk rfl 33 (.tmp 3) rfl w.heap.size 33 _ _ rfl HX1.out Tryz.underlying33 rfl Tryz.sizeC ?_)
    | (go_at_call 47; refine (HPF.out g w1 (Lib.hid (HP1.out.mono (fun _ h => h.elim))) (Lib.hid ⟨hK.out.later HB4.out, fun h0 ad e => pen_free HP1.out (by obtain ⟨ad1, e1, h1, -⟩ := hK.out.2 h0; rw [e] at e1; injection e1 with e1; subst e1; exact h1) HB4.out.size HGE.out⟩)).mono ?_; rintro en w2 ⟨A1, c1, rfl, -, hs, hk⟩
       have hs : Pen (fun _ => False) g (cmdF (wMd g) [] x).1 w2 := hs
       rw [w_cmd, List.nil_append, HYS.out] at hs
       have HK := Lib.hid hk
       obtain ⟨pv, pB, pO, -, -⟩ := hs.out
       obtain ⟨A9, c9, rfl, -, -⟩ := own_slice pO
       have z0 := pB.cell 0
       have HR := Lib.hid (Reads.of_own pO)
       clear hs hk pB pO))
  go_ret
  exact ⟨_, _, rfl, HR.out, HB4.out.trans (stp_below HK.out HB4.out.size (fun k hk => (pen_free HP1.out hk HB4.out.size HGE.out).wr))⟩
set_option maxRecDepth 100000 in
set_option maxHeartbeats 4000000 in
theorem rput_entry (A : Option Addr) (c : Nat) (B : Option Addr) (d : Nat) (E : Option Addr) (f : Nat) (x : EntT) (w : World) (hK : Hid (Reads w w.heap.size 2 A x.cmd.mem.length (mcells x.cmd.mem))) (hJ : Hid (Reads w w.heap.size 1 B x.voters.length (x.voters.map iv))) (hI : Hid (Reads w w.heap.size 1 E x.learners.length (x.learners.map iv))) (HO : EntOk x) :
    Calls Tryz.prog 24 #[.slice none 0 0, .agg #[.int .u64 (x.index : Int), .int .u64 (x.term : Int), .int .i64 x.kind, .int .i64 x.cmd.kind, .int .u64 (x.cmd.client : Int), .int .u64 (x.cmd.seq : Int), .string (strOf x.cmd.key), .int .i64 x.cmd.size, .int .u32 (x.cmd.sum : Int), .int .u64 (x.cmd.version : Int), .int .u64 (x.cmd.epoch : Int), .int .i64 x.cmd.group, .int .i64 x.cmd.node, .bool x.cmd.up, .int .u64 (x.cmd.id.ver : Int), .int .i64 x.cmd.id.idx, .int .u64 (x.cmd.id.ep : Int), .int .u64 (x.cmd.mep : Int), .slice A x.cmd.mem.length c, .slice B x.voters.length d, .slice E x.learners.length f]] w (RetO (pEnt x) w) := by
  obtain ⟨ys, hys⟩ : ∃ ys, pEnt x = ys := ⟨_, rfl⟩
  have HYS := Lib.hid hys
  rw [hys]
  clear hys
  obtain ⟨w0, ew0⟩ : ∃ w0, w.alloc (.cells #[.int .u64 (x.index : Int), .int .u64 (x.term : Int), .int .i64 x.kind, .int .i64 x.cmd.kind, .int .u64 (x.cmd.client : Int), .int .u64 (x.cmd.seq : Int), .string (strOf x.cmd.key), .int .i64 x.cmd.size, .int .u32 (x.cmd.sum : Int), .int .u64 (x.cmd.version : Int), .int .u64 (x.cmd.epoch : Int), .int .i64 x.cmd.group, .int .i64 x.cmd.node, .bool x.cmd.up, .int .u64 (x.cmd.id.ver : Int), .int .i64 x.cmd.id.idx, .int .u64 (x.cmd.id.ep : Int), .int .u64 (x.cmd.mep : Int), .slice A x.cmd.mem.length c, .slice B x.voters.length d, .slice E x.learners.length f] 38) = w0 := ⟨_, rfl⟩
  have hb : Below w.heap.size w (w.alloc (.cells #[.int .u64 (x.index : Int), .int .u64 (x.term : Int), .int .i64 x.kind, .int .i64 x.cmd.kind, .int .u64 (x.cmd.client : Int), .int .u64 (x.cmd.seq : Int), .string (strOf x.cmd.key), .int .i64 x.cmd.size, .int .u32 (x.cmd.sum : Int), .int .u64 (x.cmd.version : Int), .int .u64 (x.cmd.epoch : Int), .int .i64 x.cmd.group, .int .i64 x.cmd.node, .bool x.cmd.up, .int .u64 (x.cmd.id.ver : Int), .int .i64 x.cmd.id.idx, .int .u64 (x.cmd.id.ep : Int), .int .u64 (x.cmd.mep : Int), .slice A x.cmd.mem.length c, .slice B x.voters.length d, .slice E x.learners.length f] 38)) := (Below.refl _ _).alloc (Nat.le_refl _) _
  have hx : Blk (w.alloc (.cells #[.int .u64 (x.index : Int), .int .u64 (x.term : Int), .int .i64 x.kind, .int .i64 x.cmd.kind, .int .u64 (x.cmd.client : Int), .int .u64 (x.cmd.seq : Int), .string (strOf x.cmd.key), .int .i64 x.cmd.size, .int .u32 (x.cmd.sum : Int), .int .u64 (x.cmd.version : Int), .int .u64 (x.cmd.epoch : Int), .int .i64 x.cmd.group, .int .i64 x.cmd.node, .bool x.cmd.up, .int .u64 (x.cmd.id.ver : Int), .int .i64 x.cmd.id.idx, .int .u64 (x.cmd.id.ep : Int), .int .u64 (x.cmd.mep : Int), .slice A x.cmd.mem.length c, .slice B x.voters.length d, .slice E x.learners.length f] 38)) w.heap.size 38 #[.int .u64 (x.index : Int), .int .u64 (x.term : Int), .int .i64 x.kind, .int .i64 x.cmd.kind, .int .u64 (x.cmd.client : Int), .int .u64 (x.cmd.seq : Int), .string (strOf x.cmd.key), .int .i64 x.cmd.size, .int .u32 (x.cmd.sum : Int), .int .u64 (x.cmd.version : Int), .int .u64 (x.cmd.epoch : Int), .int .i64 x.cmd.group, .int .i64 x.cmd.node, .bool x.cmd.up, .int .u64 (x.cmd.id.ver : Int), .int .i64 x.cmd.id.idx, .int .u64 (x.cmd.id.ep : Int), .int .u64 (x.cmd.mep : Int), .slice A x.cmd.mem.length c, .slice B x.voters.length d, .slice E x.learners.length f] := Blk.new w _ _
  rw [ew0] at hb hx
  have HB0 := Lib.hid hb
  have HX0 := Lib.hid hx
  clear hb hx
  have HPF := Lib.hid (fun (g : Nat) (w1 : World) hS hK1 hJ1 hI1 => pf_entry (wMd g) (wMd_ok g) [] A c B d E f x w1 hS hK1 hJ1 hI1 HO (Lib.hid (fun h => by cases h)) (Lib.hid (fun h => by cases h)) (Lib.hid (fun h => by cases h)) (Lib.hid (by show 0 + 42992040 ≤ 70000000000000; omega)))
  go_enter Tryz.func24, Tryz.ntmps24
  go_wp2_with (first
    | (go_at_call 49; refine (pen_writer none 0 0 [] _ Reads.none_ (by omega)).mono ?_; rintro en w1 ⟨g, rfl, hg, hb, hp⟩
       have HB4 := Lib.hid (HB0.out.trans (hb.mono HB0.out.size))
       have HP1 := Lib.hid (hp.mono (H' := fun k => k < w.heap.size) (fun k hk => .inl (Nat.lt_of_lt_of_le hk HB0.out.size)))
       have HGE := Lib.hid (show w.heap.size ≤ g from Nat.le_trans HB0.out.size hg)
       have HX1 := Lib.hid (HX0.out.below hb HX0.out.lt)
       clear hg hb hp ew0)
    | (refine wpl_load_blk rfl 38 (.tmp 3) rfl w.heap.size 38 _ _ rfl HX1.out Tryz.underlying38 rfl Tryz.sizeE ?_)
    | (go_at_call 22; refine (HPF.out g w1 (Lib.hid (HP1.out.mono (fun _ h => h.elim))) (Lib.hid ⟨hK.out.later HB4.out, fun h0 ad e => pen_free HP1.out (by obtain ⟨ad1, e1, h1, -⟩ := hK.out.2 h0; rw [e] at e1; injection e1 with e1; subst e1; exact h1) HB4.out.size HGE.out⟩) (Lib.hid ⟨hJ.out.later HB4.out, fun h0 ad e => pen_free HP1.out (by obtain ⟨ad1, e1, h1, -⟩ := hJ.out.2 h0; rw [e] at e1; injection e1 with e1; subst e1; exact h1) HB4.out.size HGE.out⟩) (Lib.hid ⟨hI.out.later HB4.out, fun h0 ad e => pen_free HP1.out (by obtain ⟨ad1, e1, h1, -⟩ := hI.out.2 h0; rw [e] at e1; injection e1 with e1; subst e1; exact h1) HB4.out.size HGE.out⟩)).mono ?_; rintro en w2 ⟨A1, c1, A2, c2, A3, c3, rfl, -, -, -, hs, hk⟩
       have hs : Pen (fun _ => False) g (entF (wMd g) [] x).1 w2 := hs
       rw [w_ent, List.nil_append, HYS.out] at hs
       have HK := Lib.hid hk
       obtain ⟨pv, pB, pO, -, -⟩ := hs.out
       obtain ⟨A9, c9, rfl, -, -⟩ := own_slice pO
       have z0 := pB.cell 0
       have HR := Lib.hid (Reads.of_own pO)
       clear hs hk pB pO))
  go_ret
  exact ⟨_, _, rfl, HR.out, HB4.out.trans (stp_below HK.out HB4.out.size (fun k hk => (pen_free HP1.out hk HB4.out.size HGE.out).wr))⟩
end Go.Proofs.YthgiafjiemiifaaGreat
end
section
namespace Go.Proofs.YthgiafjiemiifaaGreat
open Go.RowKit OctMath
set_option linter.unusedVariables false
set_option maxRecDepth 100000 in
set_option maxHeartbeats 2000000 in
/-- The same content is the same. -/
theorem same_cmd (A : Option Addr) (c : Nat) (x : CmdT) (A9 : Option Addr) (c9 : Nat) (w : World) (hK : Hid (Reads w w.heap.size 2 A x.mem.length (mcells x.mem))) (hK9 : Hid (Reads w w.heap.size 2 A9 x.mem.length (mcells x.mem))) (HO : CmdOk x) :
    Calls Tryz.prog 18 #[.agg #[.int .i64 x.kind, .int .u64 (x.client : Int), .int .u64 (x.seq : Int), .string (strOf x.key), .int .i64 x.size, .int .u32 (x.sum : Int), .int .u64 (x.version : Int), .int .u64 (x.epoch : Int), .int .i64 x.group, .int .i64 x.node, .bool x.up, .int .u64 (x.id.ver : Int), .int .i64 x.id.idx, .int .u64 (x.id.ep : Int), .int .u64 (x.mep : Int), .slice A x.mem.length c], .agg #[.int .i64 x.kind, .int .u64 (x.client : Int), .int .u64 (x.seq : Int), .string (strOf x.key), .int .i64 x.size, .int .u32 (x.sum : Int), .int .u64 (x.version : Int), .int .u64 (x.epoch : Int), .int .i64 x.group, .int .i64 x.node, .bool x.up, .int .u64 (x.id.ver : Int), .int .i64 x.id.idx, .int .u64 (x.id.ep : Int), .int .u64 (x.mep : Int), .slice A9 x.mem.length c9]] w (fun e w' => e = .returned (.bool true) ∧ Below w.heap.size w w') := by
  obtain ⟨ys, hys⟩ : ∃ ys, pCmd x = ys := ⟨_, rfl⟩
  have HP1 := Lib.hid (fun W kK => rput_cmd A c x W kK HO)
  have HP2 := Lib.hid (fun W kK => rput_cmd A9 c9 x W kK HO)
  rw [hys] at HP1 HP2
  clear hys HO
  have b1 := Lib.hid ((Blk.new w 33 #[.int .i64 x.kind, .int .u64 (x.client : Int), .int .u64 (x.seq : Int), .string (strOf x.key), .int .i64 x.size, .int .u32 (x.sum : Int), .int .u64 (x.version : Int), .int .u64 (x.epoch : Int), .int .i64 x.group, .int .i64 x.node, .bool x.up, .int .u64 (x.id.ver : Int), .int .i64 x.id.idx, .int .u64 (x.id.ep : Int), .int .u64 (x.mep : Int), .slice A x.mem.length c]).alloc (.cells #[.int .i64 x.kind, .int .u64 (x.client : Int), .int .u64 (x.seq : Int), .string (strOf x.key), .int .i64 x.size, .int .u32 (x.sum : Int), .int .u64 (x.version : Int), .int .u64 (x.epoch : Int), .int .i64 x.group, .int .i64 x.node, .bool x.up, .int .u64 (x.id.ver : Int), .int .i64 x.id.idx, .int .u64 (x.id.ep : Int), .int .u64 (x.mep : Int), .slice A9 x.mem.length c9] 33))
  have b2 := Lib.hid (Blk.new (w.alloc (.cells #[.int .i64 x.kind, .int .u64 (x.client : Int), .int .u64 (x.seq : Int), .string (strOf x.key), .int .i64 x.size, .int .u32 (x.sum : Int), .int .u64 (x.version : Int), .int .u64 (x.epoch : Int), .int .i64 x.group, .int .i64 x.node, .bool x.up, .int .u64 (x.id.ver : Int), .int .i64 x.id.idx, .int .u64 (x.id.ep : Int), .int .u64 (x.mep : Int), .slice A x.mem.length c] 33)) 33 #[.int .i64 x.kind, .int .u64 (x.client : Int), .int .u64 (x.seq : Int), .string (strOf x.key), .int .i64 x.size, .int .u32 (x.sum : Int), .int .u64 (x.version : Int), .int .u64 (x.epoch : Int), .int .i64 x.group, .int .i64 x.node, .bool x.up, .int .u64 (x.id.ver : Int), .int .i64 x.id.idx, .int .u64 (x.id.ep : Int), .int .u64 (x.mep : Int), .slice A9 x.mem.length c9])
  have n1 := Lib.hid (((Below.refl w.heap.size w).alloc (Nat.le_refl _) (.cells #[.int .i64 x.kind, .int .u64 (x.client : Int), .int .u64 (x.seq : Int), .string (strOf x.key), .int .i64 x.size, .int .u32 (x.sum : Int), .int .u64 (x.version : Int), .int .u64 (x.epoch : Int), .int .i64 x.group, .int .i64 x.node, .bool x.up, .int .u64 (x.id.ver : Int), .int .i64 x.id.idx, .int .u64 (x.id.ep : Int), .int .u64 (x.mep : Int), .slice A x.mem.length c] 33)).alloc (by simp) (.cells #[.int .i64 x.kind, .int .u64 (x.client : Int), .int .u64 (x.seq : Int), .string (strOf x.key), .int .i64 x.size, .int .u32 (x.sum : Int), .int .u64 (x.version : Int), .int .u64 (x.epoch : Int), .int .i64 x.group, .int .i64 x.node, .bool x.up, .int .u64 (x.id.ver : Int), .int .i64 x.id.idx, .int .u64 (x.id.ep : Int), .int .u64 (x.mep : Int), .slice A9 x.mem.length c9] 33))
  have es : (w.alloc (.cells #[.int .i64 x.kind, .int .u64 (x.client : Int), .int .u64 (x.seq : Int), .string (strOf x.key), .int .i64 x.size, .int .u32 (x.sum : Int), .int .u64 (x.version : Int), .int .u64 (x.epoch : Int), .int .i64 x.group, .int .i64 x.node, .bool x.up, .int .u64 (x.id.ver : Int), .int .i64 x.id.idx, .int .u64 (x.id.ep : Int), .int .u64 (x.mep : Int), .slice A x.mem.length c] 33)).heap.size = w.heap.size + 1 := by simp
  rw [es] at b2
  go_enter Tryz.func18, Tryz.ntmps18
  go_wp2
  obtain ⟨W, hW⟩ : ∃ W, (w.alloc (.cells #[.int .i64 x.kind, .int .u64 (x.client : Int), .int .u64 (x.seq : Int), .string (strOf x.key), .int .i64 x.size, .int .u32 (x.sum : Int), .int .u64 (x.version : Int), .int .u64 (x.epoch : Int), .int .i64 x.group, .int .i64 x.node, .bool x.up, .int .u64 (x.id.ver : Int), .int .i64 x.id.idx, .int .u64 (x.id.ep : Int), .int .u64 (x.mep : Int), .slice A x.mem.length c] 33)).alloc (.cells #[.int .i64 x.kind, .int .u64 (x.client : Int), .int .u64 (x.seq : Int), .string (strOf x.key), .int .i64 x.size, .int .u32 (x.sum : Int), .int .u64 (x.version : Int), .int .u64 (x.epoch : Int), .int .i64 x.group, .int .i64 x.node, .bool x.up, .int .u64 (x.id.ver : Int), .int .i64 x.id.idx, .int .u64 (x.id.ep : Int), .int .u64 (x.mep : Int), .slice A9 x.mem.length c9] 33) = W := ⟨_, rfl⟩
  rw [hW] at b1 b2 n1 ⊢
  clear hW es
  refine wp_region_late (S0 := fun _ => True) (S := fun w' => Blk w' w.heap.size 33 #[.int .i64 x.kind, .int .u64 (x.client : Int), .int .u64 (x.seq : Int), .string (strOf x.key), .int .i64 x.size, .int .u32 (x.sum : Int), .int .u64 (x.version : Int), .int .u64 (x.epoch : Int), .int .i64 x.group, .int .i64 x.node, .bool x.up, .int .u64 (x.id.ver : Int), .int .i64 x.id.idx, .int .u64 (x.id.ep : Int), .int .u64 (x.mep : Int), .slice A x.mem.length c] ∧ Blk w' (w.heap.size + 1) 33 #[.int .i64 x.kind, .int .u64 (x.client : Int), .int .u64 (x.seq : Int), .string (strOf x.key), .int .i64 x.size, .int .u32 (x.sum : Int), .int .u64 (x.version : Int), .int .u64 (x.epoch : Int), .int .i64 x.group, .int .i64 x.node, .bool x.up, .int .u64 (x.id.ver : Int), .int .i64 x.id.idx, .int .u64 (x.id.ep : Int), .int .u64 (x.mep : Int), .slice A9 x.mem.length c9]) 7 8 (by kernel_rfl) rfl ⟨trivial, b1.out.drew, b2.out.drew⟩ (fun wd hwd hH => ?_)
  have nd := Lib.hid (show Below w.heap.size w wd from by rw [hwd]; exact n1.out.drew)
  clear hwd b1 b2 n1
  refine wpAnyT_take 0 rfl (by kernel_rfl) (fun _ _ _ h => h) (yields_load_blk rfl 33 (.tmp 2) rfl w.heap.size 33 #[.int .i64 x.kind, .int .u64 (x.client : Int), .int .u64 (x.seq : Int), .string (strOf x.key), .int .i64 x.size, .int .u32 (x.sum : Int), .int .u64 (x.version : Int), .int .u64 (x.epoch : Int), .int .i64 x.group, .int .i64 x.node, .bool x.up, .int .u64 (x.id.ver : Int), .int .i64 x.id.idx, .int .u64 (x.id.ep : Int), .int .u64 (x.mep : Int), .slice A x.mem.length c] _ rfl (fun w' hw' => hw'.1) Tryz.underlying33 rfl Tryz.sizeC) hH ?_
  try simp only [Act.put, List.setIfInBounds_toArray, List.set_cons_zero, List.set_cons_succ]
  refine wpAnyT_take 3 rfl (by kernel_rfl) (fun _ _ _ h => h) (yields_load_blk rfl 33 (.tmp 3) rfl (w.heap.size + 1) 33 #[.int .i64 x.kind, .int .u64 (x.client : Int), .int .u64 (x.seq : Int), .string (strOf x.key), .int .i64 x.size, .int .u32 (x.sum : Int), .int .u64 (x.version : Int), .int .u64 (x.epoch : Int), .int .i64 x.group, .int .i64 x.node, .bool x.up, .int .u64 (x.id.ver : Int), .int .i64 x.id.idx, .int .u64 (x.id.ep : Int), .int .u64 (x.mep : Int), .slice A9 x.mem.length c9] _ rfl (fun w' hw' => hw'.2) Tryz.underlying33 rfl Tryz.sizeC) hH ?_
  try simp only [Act.put, List.setIfInBounds_toArray, List.set_cons_zero, List.set_cons_succ]
  have H3 := Lib.hid (show ((strOf ys).toList == (strOf ys).toList) = true from by simp)
  refine wpAnyT_one 1 rfl (by kernel_rfl) (fun K hQ => ?_)
  go_simp
  (go_at_call 40; refine (HP1.out _ (Lib.hid (hK.out.later nd.out))).mono ?_; rintro e w1 ⟨A7, cap1, rfl, r1, hb⟩; have R1 := Lib.hid r1; have HB1 := Lib.hid hb; clear r1 hb)
  refine hQ.out _ _ ⟨trivial, hH.2.1.below HB1.out hH.2.1.lt, hH.2.2.below HB1.out hH.2.2.lt⟩ (fun hH1 => ?_)
  clear hQ K
  try simp only [Act.put, List.setIfInBounds_toArray, List.set_cons_zero, List.set_cons_succ]
  refine wpAnyT_mono (S0' := fun w' => Reads w' w'.heap.size 1 A7 ys.length (ys.map bv)) (S' := fun w' => Blk w' w.heap.size 33 #[.int .i64 x.kind, .int .u64 (x.client : Int), .int .u64 (x.seq : Int), .string (strOf x.key), .int .i64 x.size, .int .u32 (x.sum : Int), .int .u64 (x.version : Int), .int .u64 (x.epoch : Int), .int .i64 x.group, .int .i64 x.node, .bool x.up, .int .u64 (x.id.ver : Int), .int .i64 x.id.idx, .int .u64 (x.id.ep : Int), .int .u64 (x.mep : Int), .slice A x.mem.length c] ∧ Blk w' (w.heap.size + 1) 33 #[.int .i64 x.kind, .int .u64 (x.client : Int), .int .u64 (x.seq : Int), .string (strOf x.key), .int .i64 x.size, .int .u32 (x.sum : Int), .int .u64 (x.version : Int), .int .u64 (x.epoch : Int), .int .i64 x.group, .int .i64 x.node, .bool x.up, .int .u64 (x.id.ver : Int), .int .i64 x.id.idx, .int .u64 (x.id.ep : Int), .int .u64 (x.mep : Int), .slice A9 x.mem.length c9]) (fun _ _ => trivial) (fun _ h => h) _ _ _ _ ?_
  refine wpAnyT_stay 2 (v := ?_) rfl (by kernel_rfl) (fun _ _ _ h => h) (Or.inl ⟨by rfl, ?_⟩) ⟨R1.out, fun _ => hH1.2⟩ ?_
  rotate_left
  · (intro wx hx; have kc := run_conv_bytes (P := Tryz.prog) (src := 22) (dst := 9) (cap := cap1) Tryz.underlying22 Tryz.underlying5 Tryz.underlying9 hx; go_simp <;> with_reducible rfl)
  try simp only [Act.put, List.setIfInBounds_toArray, List.set_cons_zero, List.set_cons_succ]
  refine wpAnyT_one 4 rfl (by kernel_rfl) (fun K hQ => ?_)
  go_simp
  (go_at_call 40; refine (HP2.out _ (Lib.hid (hK9.out.later (nd.out.trans (HB1.out.mono nd.out.size))))).mono ?_; rintro e w2 ⟨A8, cap2, rfl, r2, hb⟩; have R2 := Lib.hid r2; have HB2 := Lib.hid hb; clear r2 hb)
  refine hQ.out _ _ ⟨R1.out.later HB2.out, hH1.2.1.below HB2.out hH1.2.1.lt, hH1.2.2.below HB2.out hH1.2.2.lt⟩ (fun hH2 => ?_)
  clear hQ K
  try simp only [Act.put, List.setIfInBounds_toArray, List.set_cons_zero, List.set_cons_succ]
  refine wpAnyT_mono (S0' := fun w' => Reads w' w'.heap.size 1 A8 ys.length (ys.map bv) ∧ Reads w' w'.heap.size 1 A7 ys.length (ys.map bv)) (S' := fun w' => Blk w' w.heap.size 33 #[.int .i64 x.kind, .int .u64 (x.client : Int), .int .u64 (x.seq : Int), .string (strOf x.key), .int .i64 x.size, .int .u32 (x.sum : Int), .int .u64 (x.version : Int), .int .u64 (x.epoch : Int), .int .i64 x.group, .int .i64 x.node, .bool x.up, .int .u64 (x.id.ver : Int), .int .i64 x.id.idx, .int .u64 (x.id.ep : Int), .int .u64 (x.mep : Int), .slice A x.mem.length c] ∧ Blk w' (w.heap.size + 1) 33 #[.int .i64 x.kind, .int .u64 (x.client : Int), .int .u64 (x.seq : Int), .string (strOf x.key), .int .i64 x.size, .int .u32 (x.sum : Int), .int .u64 (x.version : Int), .int .u64 (x.epoch : Int), .int .i64 x.group, .int .i64 x.node, .bool x.up, .int .u64 (x.id.ver : Int), .int .i64 x.id.idx, .int .u64 (x.id.ep : Int), .int .u64 (x.mep : Int), .slice A9 x.mem.length c9]) (fun _ h => h.2) (fun _ h => h) _ _ _ _ ?_
  refine wpAnyT_stay 5 (v := ?_) rfl (by kernel_rfl) (fun _ _ _ h => h) (Or.inl ⟨by rfl, ?_⟩) ⟨⟨R2.out, hH2.1⟩, fun _ => hH2.2⟩ ?_
  rotate_left
  · (intro wx hx; have kc := run_conv_bytes (P := Tryz.prog) (src := 22) (dst := 9) (cap := cap2) Tryz.underlying22 Tryz.underlying5 Tryz.underlying9 hx.1; go_simp <;> with_reducible rfl)
  try simp only [Act.put, List.setIfInBounds_toArray, List.set_cons_zero, List.set_cons_succ]
  refine wpAnyT_stay 6 (v := ?_) rfl (by kernel_rfl) (fun _ _ _ h => h) (Or.inl ⟨by rfl, ?_⟩) ⟨⟨R2.out, hH2.1⟩, fun _ => hH2.2⟩ ?_
  rotate_left
  · (intro wx hx; have h3 := H3.out; go_simp <;> with_reducible rfl)
  try simp only [Act.put, List.setIfInBounds_toArray, List.set_cons_zero, List.set_cons_succ]
  refine wpAnyT_last 7 rfl (by kernel_rfl) (by decide) (fun K hQ => ?_)
  go_simp
  refine hQ.out _ _ ⟨R2.out, hH2.1⟩ (fun hH7 => ?_)
  clear hQ K
  try simp only [Act.put, List.setIfInBounds_toArray, List.set_cons_zero, List.set_cons_succ]
  refine wpAnyT_done (by kernel_rfl) ?_ _
  clear hH hH1 hH2 hH7
  go_wp2
  go_ret
  exact ⟨rfl, (nd.out.trans (HB1.out.mono nd.out.size)).trans (HB2.out.mono (Nat.le_trans nd.out.size HB1.out.size))⟩
end Go.Proofs.YthgiafjiemiifaaGreat
end
