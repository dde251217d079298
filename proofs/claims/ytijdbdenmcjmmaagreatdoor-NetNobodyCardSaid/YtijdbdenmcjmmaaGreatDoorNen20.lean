/-
  WHAT THE REFERENCE'S P COMES TO: writing, it puts; reading, it reads. Plain; THE REFERENCE'S WRITER: the exported functions; what is the same. (printed by gen_pas4.py); THE PROGRAM'S WRITER: the exported functions. (printed by gen_pas4.py); WHAT BOTH READERS ANSWER at any place. (printed by gen_pas4.py); WHAT IS PUT IS READ AGAIN, whatever stands ahead and behind: plain; THE PROGRAM'S READER: rows of objects, of intents. (printed by gen_par13.py); WHAT COMES IN: members, maps, commands, configurations, entries. (printed by gen_pai1.py); MESSAGES: what is read, what is put, and that the one undoes the other: plain. (printed by gen_wirm2.py). (joined out of PaQ9, PaQ10, PaS4, PaL1, PaB1, PaR13, PaI1, WirM2 by shake.py)
-/
import Derived.Deep.Slices
import Derived.Deep.Fields
import Derived.ChangeSame
import Derived.Lib.SmallJoins
import Derived.Test.YtijdbdenmcjmmaaGreatDoorNen14
import Derived.Test.YtijdbdenmcjmmaaGreatDoorNen17
import Derived.Test.YtijdbdenmcjmmaaGreatDoorNen19
import Derived.Test.YtijdbdenmcjmmaaGreatDoorNen12
import Derived.Test.YtijdbdenmcjmmaaGreatDoorNen10
import Derived.Test.YtijdbdenmcjmmaaGreatDoorNen07
import Derived.Test.YtijdbdenmcjmmaaGreatDoorNen08
section
namespace Go.Proofs.YtijdbdenmcjmmaaGreatDoor
open Go.RowKit OctMath
set_option linter.unusedVariables false
set_option linter.unusedSectionVars false
/-! ### Writing -/
theorem w_it {α β : Type} (g : Nat) {one : List Nat → α → List Nat × β} {put : α → List Nat} (h : ∀ s x, (one s x).1 = s ++ put x) (l : List α) (z : α) (s : List Nat) : ∀ k, k ≤ l.length → (itF (wMd g) one (fun i => l.getD i z) k s).1 = s ++ (l.take k).flatMap put
  | 0, _ => by simp [itF]
  | k + 1, hk => by
    have ih := w_it g h l z s k (by omega)
    show (if false = true then _ else _ : List Nat × List β).1 = _
    rw [if_neg (by simp), h, ih, flat_take put l z k (by omega), List.append_assoc]
theorem w_ints (g : Nat) (s : List Nat) (l : List Int) : (intsF (wMd g) s l).1 = s ++ pList pInt l := by
  have h := w_it g (one := (wMd g).int) (put := pInt) (fun s x => rfl) l 0 (s ++ putN l.length) l.length (Nat.le_refl _)
  rw [List.take_length] at h
  show (itF (wMd g) (wMd g).int (fun i => l.getD i 0) l.length (s ++ putN l.length)).1 = _
  rw [h]; unfold pList; rw [List.append_assoc]
theorem w_id (g : Nat) (s : List Nat) (x : IdT) : (idF (wMd g) s x).1 = s ++ pId x := by
  simp only [idF, bnd, wMd, pId, pInt, List.append_assoc]
theorem w_hd (g : Nat) (s : List Nat) (x : HdT) : (hdF (wMd g) s x).1 = s ++ pHd x := by
  have h := w_id g s x.id
  simp only [hdF, bnd]
  show (((((idF (wMd g) s x.id).1 ++ putN (zz x.k)) ++ putN (zz x.n)) ++ putN (zz x.size)) ++ putN x.sum) = _
  rw [h]
  simp only [pHd, pInt, List.append_assoc]
theorem w_conf (g : Nat) (s : List Nat) (x : List Int × List Int) : (confF (wMd g) s x).1 = s ++ pConf x := by
  show (intsF (wMd g) (intsF (wMd g) s x.1).1 x.2).1 = _
  rw [w_ints, w_ints]; unfold pConf; rw [List.append_assoc]
theorem w_mem (g : Nat) (s : List Nat) (x : Int × Int) : (memF (wMd g) s x).1 = s ++ pMem x := by
  simp only [memF, bnd, wMd, pMem, pInt, List.append_assoc]
theorem w_mems (g : Nat) (s : List Nat) (l : List (Int × Int)) : (memsF (wMd g) s l).1 = s ++ pList pMem l := by
  have h := w_it g (one := memF (wMd g)) (put := pMem) (fun s x => w_mem g s x) l (0, 0) (s ++ putN l.length) l.length (Nat.le_refl _)
  rw [List.take_length] at h
  show (itF (wMd g) (memF (wMd g)) (fun i => l.getD i (0, 0)) l.length (s ++ putN l.length)).1 = _
  rw [h]; unfold pList; rw [List.append_assoc]
theorem w_map (g : Nat) (s : List Nat) (x : Nat × List (Int × Int)) : (mapF (wMd g) s x).1 = s ++ pMap x := by
  show (memsF (wMd g) (s ++ putN x.1) x.2).1 = _
  rw [w_mems]; unfold pMap; rw [List.append_assoc]
theorem w_flag (b : Bool) : [b.toNat] = pFlag b := by cases b <;> rfl
theorem w_cmd (g : Nat) (s : List Nat) (x : CmdT) : (cmdF (wMd g) s x).1 = s ++ pCmd x := by
  show (mapF (wMd g) (idF (wMd g) (s ++ putN (zz x.kind) ++ putN x.client ++ putN x.seq ++ (putN x.key.length ++ x.key) ++ putN (zz x.size) ++ putN x.sum ++ putN x.version ++ putN x.epoch ++ putN (zz x.group) ++ putN (zz x.node) ++ [x.up.toNat]) x.id).1 (x.mep, x.mem)).1 = _
  rw [w_map, w_id, w_flag]
  simp only [pCmd, pInt, pText, List.append_assoc]
theorem w_ent (g : Nat) (s : List Nat) (x : EntT) : (entF (wMd g) s x).1 = s ++ pEnt x := by
  show (confF (wMd g) (cmdF (wMd g) (s ++ putN x.index ++ putN x.term ++ putN (zz x.kind)) x.cmd).1 (x.voters, x.learners)).1 = _
  rw [w_conf, w_cmd]
  simp only [pEnt, pInt, List.append_assoc]
/-! ### Reading -/
abbrev RS_ := Int × Bool
structure Sees {α : Type} (F : RS_ → RS_ × α) (r : Rd α) : Prop where
  good : ∀ p y q, r p = some (y, q) → F ((p : Int), false) = (((q : Int), false), y)
  fail : ∀ p, r p = none → (F ((p : Int), false)).1.2 = true
  bad : ∀ q : Int, (F (q, true)).1.2 = true
def Outs {α : Type} (n : Nat) (F : RS_ → RS_ × α) : Prop := ∀ q : Int, q < 0 ∨ (n : Int) < q → (F (q, false)).1.2 = true
theorem state_eq {s : RS_} (h : s.2 = true) : s = (s.1, true) := by rw [← h]
theorem Sees.pure {α : Type} (x : α) : Sees (fun s => (s, x)) (Rd.pure x) := ⟨fun p y q h => by cases h; rfl, fun p h => (by cases h), fun _ => rfl⟩
theorem Sees.bind {α β : Type} {F : RS_ → RS_ × α} {r : Rd α} {G : RS_ → α → RS_ × β} {k : α → Rd β} (h : Sees F r) (hk : ∀ x, Sees (fun s => G s x) (k x)) : Sees (fun s => bnd (F s) G) (r.bind k) := by
  refine ⟨fun p y q e => ?_, fun p e => ?_, fun q => ?_⟩
  · unfold Rd.bind at e
    cases h1 : r p with
    | none => rw [h1] at e; cases e
    | some v =>
      obtain ⟨x, p1⟩ := v
      rw [h1] at e
      show bnd (F ((p : Int), false)) G = _
      rw [h.good p x p1 h1, bnd_mk]
      exact (hk x).good p1 y q e
  · show (bnd (F ((p : Int), false)) G).1.2 = true
    unfold Rd.bind at e
    cases h1 : r p with
    | none =>
      have hb := h.fail p h1
      generalize F ((p : Int), false) = r2 at hb ⊢
      obtain ⟨s, x⟩ := r2
      have hb : s.2 = true := hb
      rw [bnd_mk]
      rw [state_eq hb]
      exact (hk x).bad _
    | some v =>
      obtain ⟨x, p1⟩ := v
      rw [h1] at e
      rw [h.good p x p1 h1, bnd_mk]
      exact (hk x).fail p1 e
  · show (bnd (F (q, true)) G).1.2 = true
    have hb := h.bad q
    generalize F (q, true) = r2 at hb ⊢
    obtain ⟨s, x⟩ := r2
    have hb : s.2 = true := hb
    rw [bnd_mk]
    rw [state_eq hb]
    exact (hk x).bad _
theorem Outs.bind {α β : Type} {n : Nat} {F : RS_ → RS_ × α} {G : RS_ → α → RS_ × β} {k : α → Rd β} (h : Outs n F) (hk : ∀ x, Sees (fun s => G s x) (k x)) : Outs n (fun s => bnd (F s) G) := fun q hq => by
  show (bnd (F (q, false)) G).1.2 = true
  have hb := h q hq
  generalize F (q, false) = r2 at hb ⊢
  obtain ⟨s, x⟩ := r2
  have hb : s.2 = true := hb
  rw [bnd_mk]
  rw [state_eq hb]
  exact (hk x).bad _
section
variable {bs : List Nat} (hb : Byt bs)
include hb
end
section
variable {g n cap : Nat} {A : Option Addr} {bs : List Nat} (hb : Byt bs)
include hb
end
end Go.Proofs.YtijdbdenmcjmmaaGreatDoor
end
section
namespace Go.Proofs.YtijdbdenmcjmmaaGreatDoor
open Go.RowKit OctMath
set_option linter.unusedVariables false
theorem pen_free {g k B : Nat} {xs : List Nat} {w : World} (h : Pen (fun k => k < B) g xs w) (hk : k < B) (hB : B ≤ w.heap.size) (hg : B ≤ g) : Free (wMd g) k w := by
  obtain ⟨v, hBk, hO, hne, hh⟩ := h.out
  have h0 : w.cell? ⟨g, 0, none⟩ = some v := hBk.cell 0
  have hn : ¬ (k = g ∨ ∃ u, w.cell? ⟨g, 0, none⟩ = some u ∧ u.ownBlock = some k) := by
    rintro (e | ⟨u, hu, e⟩)
    · omega
    · rw [h0] at hu
      injection hu with hu
      subst hu
      exact hh k hk e
  exact ⟨by omega, hn, hn⟩
theorem stp_below {σ : Type} {M : Md σ} {w w' : World} {B : Nat} (h : Stp M w w') (hB : B ≤ w.heap.size) (hf : ∀ k, k < B → ¬ M.wr w k) : Below B w w' := ⟨h.os, h.tape, h.output, h.size, fun k hk => h.block k (by omega) (hf k hk)⟩
end Go.Proofs.YtijdbdenmcjmmaaGreatDoor
end
section
namespace Go.Proofs.YtijdbdenmcjmmaaGreatDoor
open Go.RowKit OctMath
set_option linter.unusedVariables false
set_option maxRecDepth 100000 in
set_option maxHeartbeats 4000000 in
theorem wri_header (O : Option Addr) (on oc : Nat) (xs : List Nat) (x : HdT) (w : World) (hO : Hid (Reads w w.heap.size 1 O on (xs.map bv)))  (HO : HdOk x) (hl : on + 70 ≤ 70000000000000) :
    Calls Tryz.prog 57 #[.slice O on oc, .agg #[.int .u64 (x.id.ver : Int), .int .i64 x.id.idx, .int .u64 (x.id.ep : Int), .int .i64 x.k, .int .i64 x.n, .int .i64 x.size, .int .u32 (x.sum : Int)], .func (.func 58) #[] #[]] w (RetO (xs ++ pHd x) w) := by
  have hon : xs.length = on := by simpa using hO.out.1
  have HON := Lh hon
  have hmk : ∀ W : World, (Instr.makeSlice 33 (.int .i64 0) (.int .i64 ((on : Int) + 64))).run Tryz.prog W = .ok (.slice (some ⟨W.heap.size, 0, none⟩) 0 (on + 64)) (W.alloc (.cells (madeCells #[.int .u8 0] (on + 64)) 5)) := fun W => by
    have := make0 (on + 64) (by omega) W
    rw [show ((on + 64 : Nat) : Int) = (on : Int) + 64 from by omega] at this
    exact this
  have HO := Lh HO
  obtain ⟨ys, hys⟩ : ∃ ys, xs ++ pHd x = ys := ⟨_, rfl⟩
  have HYS := Lh hys
  rw [hys]
  clear hys
  obtain ⟨w0, ew0⟩ : ∃ w0, w.alloc (.cells #[.int .u64 (x.id.ver : Int), .int .i64 x.id.idx, .int .u64 (x.id.ep : Int), .int .i64 x.k, .int .i64 x.n, .int .i64 x.size, .int .u32 (x.sum : Int)] 32) = w0 := ⟨_, rfl⟩
  have hb : Below w.heap.size w (w.alloc (.cells #[.int .u64 (x.id.ver : Int), .int .i64 x.id.idx, .int .u64 (x.id.ep : Int), .int .i64 x.k, .int .i64 x.n, .int .i64 x.size, .int .u32 (x.sum : Int)] 32)) := (Below.refl _ _).alloc (Nat.le_refl _) _
  have hx : Blk (w.alloc (.cells #[.int .u64 (x.id.ver : Int), .int .i64 x.id.idx, .int .u64 (x.id.ep : Int), .int .i64 x.k, .int .i64 x.n, .int .i64 x.size, .int .u32 (x.sum : Int)] 32)) w.heap.size 32 #[.int .u64 (x.id.ver : Int), .int .i64 x.id.idx, .int .u64 (x.id.ep : Int), .int .i64 x.k, .int .i64 x.n, .int .i64 x.size, .int .u32 (x.sum : Int)] := Blk.new w _ _
  rw [ew0] at hb hx
  have hsz : w0.heap.size = w.heap.size + 1 := by rw [← ew0]; simp
  have HB0 := Lh hb
  have HX0 := Lh hx
  have HS0 := Lh hsz
  clear hb hx hsz hon
  go_enter Tryz.func57, Tryz.ntmps57
  go_wp2_with (first
    | (at_builtin
       refine wpl_append rfl (.tmp 11) (.tmp 12) _ rfl w0 w0.heap.size 5 _ 1 1 Tryz.underlying33 Tryz.infoU8 rfl (by decide) (.slice (some ⟨w0.heap.size, 0, none⟩) 0 (on + 64)) 0 [] rfl ?own (w0.heap.size + 1) O on oc (xs.map bv) rfl ?rd (bv_one xs) (by omega) (by decide) ?bel ?base ?_
       case own => exact World.ownsRow_made w0 _ _ (Nat.le_refl _) (by unfold maxLen; omega) (by rw [size_madeCells, Nat.mul_one])
       case rd => exact ((hO.out.later HB0.out).alloc (Nat.le_refl _) _).more (by simp)
       case bel => exact (Below.refl _ _).alloc (Nat.le_refl _) _
       case base => simp
       intro v1 w1 hh
       obtain ⟨PA, pn, pc, rfl⟩ : ∃ PA pn pc, v1 = .slice PA pn pc := (by obtain ⟨x, y, e, _⟩ := own_slice hh.out.1; exact ⟨_, _, _, e⟩)
       have h1 := hh.out.1
       have h2 := hh.out.2.1
       have h3 := hh.out.2.2
       have hbs : Below w0.heap.size w0 (w1.alloc (.cells #[.slice PA pn pc] 174)) := h2.alloc h3 _
       have hsh : Sh (fun k => k < w.heap.size) w1.heap.size xs (w1.alloc (.cells #[.slice PA pn pc] 174)) := (by
         refine ⟨⟨_, Blk.new _ _ _, ?_, fun e => by have := (h1.lt _ e).2; omega, fun k hk e => by have := (h1.lt _ e).1; have := HS0.out; omega⟩⟩
         have h := own_baseO h1 (Nat.zero_le _)
         rw [HON.out]
         simpa using h.alloc _)
       obtain ⟨w2, ew2⟩ : ∃ w2, w1.alloc (.cells #[.slice PA pn pc] 174) = w2 := ⟨_, rfl⟩
       rw [ew2] at hbs hsh
       have HX2 := Lh (HX0.out.below hbs (by have := HS0.out; omega))
       have HB4 := Lh (show Below w.heap.size w w2 from HB0.out.trans (hbs.mono (by have := HS0.out; omega)))
       have HSH := Lh hsh
       have HSF := Lh (show Safe (fun k => k < w.heap.size) w1.heap.size w2 from fun k hk => ⟨Nat.lt_of_lt_of_le hk HB4.out.size, by have := HS0.out; omega⟩)
       clear ew0 hmk h1 h2 h3 hbs hsh)
    | (refine wpl_load_blk rfl 32 (.tmp 4) rfl w.heap.size 32 _ _ rfl HX2.out Tryz.underlying32 rfl Tryz.sizeH ?_)
    | (go_at_call 58; refine (sh_header (fun k => k < w.heap.size) w1.heap.size xs x w2 HSH HSF  HO.out (by have := HON.out; omega)).mono ?_; rintro e w3 ⟨rfl, h1, h2⟩
       rw [HYS.out] at h1
       have HK3 := Lh h2
       obtain ⟨pv, pB, pO, -, -⟩ := h1.out
       obtain ⟨A3, c3, rfl, -, -⟩ := own_slice pO
       have z0 := pB.cell 0
       have HR := Lh (Reads.of_own pO)
       clear h1 h2 pB pO ew2))
  go_ret
  refine ⟨_, _, rfl, HR.out, ?_⟩
  exact HB4.out.trans (HK3.out.toBelow HB4.out.size (fun k hk => hk))
set_option maxRecDepth 100000 in
set_option maxHeartbeats 4000000 in
theorem put_header (O : Option Addr) (on oc : Nat) (xs : List Nat) (x : HdT) (w : World) (hO : Hid (Reads w w.heap.size 1 O on (xs.map bv)))  (HO : HdOk x) (hl : on + 70 ≤ 70000000000000) :
    Calls Tryz.prog 37 #[.slice O on oc, .agg #[.int .u64 (x.id.ver : Int), .int .i64 x.id.idx, .int .u64 (x.id.ep : Int), .int .i64 x.k, .int .i64 x.n, .int .i64 x.size, .int .u32 (x.sum : Int)]] w (RetO (xs ++ pHd x) w) := by
  obtain ⟨w0, ew0⟩ : ∃ w0, w.alloc (.cells #[.int .u64 (x.id.ver : Int), .int .i64 x.id.idx, .int .u64 (x.id.ep : Int), .int .i64 x.k, .int .i64 x.n, .int .i64 x.size, .int .u32 (x.sum : Int)] 32) = w0 := ⟨_, rfl⟩
  have hb : Below w.heap.size w (w.alloc (.cells #[.int .u64 (x.id.ver : Int), .int .i64 x.id.idx, .int .u64 (x.id.ep : Int), .int .i64 x.k, .int .i64 x.n, .int .i64 x.size, .int .u32 (x.sum : Int)] 32)) := (Below.refl _ _).alloc (Nat.le_refl _) _
  have hx : Blk (w.alloc (.cells #[.int .u64 (x.id.ver : Int), .int .i64 x.id.idx, .int .u64 (x.id.ep : Int), .int .i64 x.k, .int .i64 x.n, .int .i64 x.size, .int .u32 (x.sum : Int)] 32)) w.heap.size 32 #[.int .u64 (x.id.ver : Int), .int .i64 x.id.idx, .int .u64 (x.id.ep : Int), .int .i64 x.k, .int .i64 x.n, .int .i64 x.size, .int .u32 (x.sum : Int)] := Blk.new w _ _
  rw [ew0] at hb hx
  have HX0 := Lh hx
  have HB0 := Lh hb
  obtain ⟨ys, hys⟩ : ∃ ys, xs ++ pHd x = ys := ⟨_, rfl⟩
  rw [hys]
  have HC := Lh (wri_header O on oc xs x w0 (Lh (hO.out.later hb))  HO hl)
  rw [hys] at HC
  clear hx hb hys
  go_enter Tryz.func37, Tryz.ntmps37
  go_wp2_with (first
    | (refine wpl_load_blk rfl 32 (.tmp 3) rfl w.heap.size 32 _ _ rfl HX0.out Tryz.underlying32 rfl Tryz.sizeH ?_)
    | (go_at_call 57; refine HC.out.mono ?_; rintro e w1 ⟨A1, c1, rfl, r1, hb1⟩; have HR := Lh (And.intro r1 hb1); clear r1 hb1))
  go_ret
  exact ⟨_, _, rfl, HR.out.1, HB0.out.trans (HR.out.2.mono HB0.out.size)⟩
set_option maxRecDepth 100000 in
set_option maxHeartbeats 4000000 in
theorem wri_conf (O : Option Addr) (on oc : Nat) (xs : List Nat) (A : Option Addr) (c : Nat) (B : Option Addr) (d : Nat) (x : List Int × List Int) (w : World) (hO : Hid (Reads w w.heap.size 1 O on (xs.map bv))) (hK : Hid (Reads w w.heap.size 1 A x.1.length (x.1.map iv))) (hJ : Hid (Reads w w.heap.size 1 B x.2.length (x.2.map iv))) (HO : IntsOk x.1 ∧ IntsOk x.2) (hl : on + 20971590 ≤ 70000000000000) :
    Calls Tryz.prog 55 #[.slice O on oc, .agg #[.slice A x.1.length c, .slice B x.2.length d], .func (.func 56) #[] #[]] w (RetO (xs ++ pConf x) w) := by
  have hon : xs.length = on := by simpa using hO.out.1
  have HON := Lh hon
  have hmk : ∀ W : World, (Instr.makeSlice 33 (.int .i64 0) (.int .i64 ((on : Int) + 64))).run Tryz.prog W = .ok (.slice (some ⟨W.heap.size, 0, none⟩) 0 (on + 64)) (W.alloc (.cells (madeCells #[.int .u8 0] (on + 64)) 5)) := fun W => by
    have := make0 (on + 64) (by omega) W
    rw [show ((on + 64 : Nat) : Int) = (on : Int) + 64 from by omega] at this
    exact this
  have HO := Lh HO
  obtain ⟨ys, hys⟩ : ∃ ys, xs ++ pConf x = ys := ⟨_, rfl⟩
  have HYS := Lh hys
  rw [hys]
  clear hys
  obtain ⟨w0, ew0⟩ : ∃ w0, w.alloc (.cells #[.slice A x.1.length c, .slice B x.2.length d] 27) = w0 := ⟨_, rfl⟩
  have hb : Below w.heap.size w (w.alloc (.cells #[.slice A x.1.length c, .slice B x.2.length d] 27)) := (Below.refl _ _).alloc (Nat.le_refl _) _
  have hx : Blk (w.alloc (.cells #[.slice A x.1.length c, .slice B x.2.length d] 27)) w.heap.size 27 #[.slice A x.1.length c, .slice B x.2.length d] := Blk.new w _ _
  rw [ew0] at hb hx
  have hsz : w0.heap.size = w.heap.size + 1 := by rw [← ew0]; simp
  have HB0 := Lh hb
  have HX0 := Lh hx
  have HS0 := Lh hsz
  clear hb hx hsz hon
  go_enter Tryz.func55, Tryz.ntmps55
  go_wp2_with (first
    | (at_builtin
       refine wpl_append rfl (.tmp 11) (.tmp 12) _ rfl w0 w0.heap.size 5 _ 1 1 Tryz.underlying33 Tryz.infoU8 rfl (by decide) (.slice (some ⟨w0.heap.size, 0, none⟩) 0 (on + 64)) 0 [] rfl ?own (w0.heap.size + 1) O on oc (xs.map bv) rfl ?rd (bv_one xs) (by omega) (by decide) ?bel ?base ?_
       case own => exact World.ownsRow_made w0 _ _ (Nat.le_refl _) (by unfold maxLen; omega) (by rw [size_madeCells, Nat.mul_one])
       case rd => exact ((hO.out.later HB0.out).alloc (Nat.le_refl _) _).more (by simp)
       case bel => exact (Below.refl _ _).alloc (Nat.le_refl _) _
       case base => simp
       intro v1 w1 hh
       obtain ⟨PA, pn, pc, rfl⟩ : ∃ PA pn pc, v1 = .slice PA pn pc := (by obtain ⟨x, y, e, _⟩ := own_slice hh.out.1; exact ⟨_, _, _, e⟩)
       have h1 := hh.out.1
       have h2 := hh.out.2.1
       have h3 := hh.out.2.2
       have hbs : Below w0.heap.size w0 (w1.alloc (.cells #[.slice PA pn pc] 174)) := h2.alloc h3 _
       have hsh : Sh (fun k => k < w.heap.size) w1.heap.size xs (w1.alloc (.cells #[.slice PA pn pc] 174)) := (by
         refine ⟨⟨_, Blk.new _ _ _, ?_, fun e => by have := (h1.lt _ e).2; omega, fun k hk e => by have := (h1.lt _ e).1; have := HS0.out; omega⟩⟩
         have h := own_baseO h1 (Nat.zero_le _)
         rw [HON.out]
         simpa using h.alloc _)
       obtain ⟨w2, ew2⟩ : ∃ w2, w1.alloc (.cells #[.slice PA pn pc] 174) = w2 := ⟨_, rfl⟩
       rw [ew2] at hbs hsh
       have HX2 := Lh (HX0.out.below hbs (by have := HS0.out; omega))
       have HB4 := Lh (show Below w.heap.size w w2 from HB0.out.trans (hbs.mono (by have := HS0.out; omega)))
       have HSH := Lh hsh
       have HSF := Lh (show Safe (fun k => k < w.heap.size) w1.heap.size w2 from fun k hk => ⟨Nat.lt_of_lt_of_le hk HB4.out.size, by have := HS0.out; omega⟩)
       clear ew0 hmk h1 h2 h3 hbs hsh)
    | (refine wpl_load_blk rfl 27 (.tmp 4) rfl w.heap.size 27 _ _ rfl HX2.out Tryz.underlying27 rfl Tryz.sizeF ?_)
    | (go_at_call 56; refine (sh_conf (fun k => k < w.heap.size) w1.heap.size xs A c B d x w2 HSH HSF (Lh (hK.out.later HB4.out)) (Lh (fun h0 ad e => by obtain ⟨ad1, e1, h1, -⟩ := hK.out.2 h0; rw [e] at e1; injection e1 with e1; subst e1; exact h1)) (Lh (hJ.out.later HB4.out)) (Lh (fun h0 ad e => by obtain ⟨ad1, e1, h1, -⟩ := hJ.out.2 h0; rw [e] at e1; injection e1 with e1; subst e1; exact h1)) HO.out (by have := HON.out; omega)).mono ?_; rintro e w3 ⟨rfl, h1, h2⟩
       rw [HYS.out] at h1
       have HK3 := Lh h2
       obtain ⟨pv, pB, pO, -, -⟩ := h1.out
       obtain ⟨A3, c3, rfl, -, -⟩ := own_slice pO
       have z0 := pB.cell 0
       have HR := Lh (Reads.of_own pO)
       clear h1 h2 pB pO ew2))
  go_ret
  refine ⟨_, _, rfl, HR.out, ?_⟩
  exact HB4.out.trans (HK3.out.toBelow HB4.out.size (fun k hk => hk))
set_option maxRecDepth 100000 in
set_option maxHeartbeats 4000000 in
theorem put_conf (O : Option Addr) (on oc : Nat) (xs : List Nat) (A : Option Addr) (c : Nat) (B : Option Addr) (d : Nat) (x : List Int × List Int) (w : World) (hO : Hid (Reads w w.heap.size 1 O on (xs.map bv))) (hK : Hid (Reads w w.heap.size 1 A x.1.length (x.1.map iv))) (hJ : Hid (Reads w w.heap.size 1 B x.2.length (x.2.map iv))) (HO : IntsOk x.1 ∧ IntsOk x.2) (hl : on + 20971590 ≤ 70000000000000) :
    Calls Tryz.prog 36 #[.slice O on oc, .agg #[.slice A x.1.length c, .slice B x.2.length d]] w (RetO (xs ++ pConf x) w) := by
  obtain ⟨w0, ew0⟩ : ∃ w0, w.alloc (.cells #[.slice A x.1.length c, .slice B x.2.length d] 27) = w0 := ⟨_, rfl⟩
  have hb : Below w.heap.size w (w.alloc (.cells #[.slice A x.1.length c, .slice B x.2.length d] 27)) := (Below.refl _ _).alloc (Nat.le_refl _) _
  have hx : Blk (w.alloc (.cells #[.slice A x.1.length c, .slice B x.2.length d] 27)) w.heap.size 27 #[.slice A x.1.length c, .slice B x.2.length d] := Blk.new w _ _
  rw [ew0] at hb hx
  have HX0 := Lh hx
  have HB0 := Lh hb
  obtain ⟨ys, hys⟩ : ∃ ys, xs ++ pConf x = ys := ⟨_, rfl⟩
  rw [hys]
  have HC := Lh (wri_conf O on oc xs A c B d x w0 (Lh (hO.out.later hb)) (Lh (hK.out.later hb)) (Lh (hJ.out.later hb)) HO hl)
  rw [hys] at HC
  clear hx hb hys
  go_enter Tryz.func36, Tryz.ntmps36
  go_wp2_with (first
    | (refine wpl_load_blk rfl 27 (.tmp 3) rfl w.heap.size 27 _ _ rfl HX0.out Tryz.underlying27 rfl Tryz.sizeF ?_)
    | (go_at_call 55; refine HC.out.mono ?_; rintro e w1 ⟨A1, c1, rfl, r1, hb1⟩; have HR := Lh (And.intro r1 hb1); clear r1 hb1))
  go_ret
  exact ⟨_, _, rfl, HR.out.1, HB0.out.trans (HR.out.2.mono HB0.out.size)⟩
end Go.Proofs.YtijdbdenmcjmmaaGreatDoor
end
section
namespace Go.Proofs.YtijdbdenmcjmmaaGreatDoor
open Go.RowKit OctMath
set_option linter.unusedVariables false
theorem lst_nil (lo size : Nat) (w : World) : Lst lo size none 0 0 [] w := ⟨Reads.none_, fun h => absurd h (by decide), by decide, by unfold maxLen; omega⟩
theorem pInt_pos (x : Int) : 0 < (pInt x).length := putN_pos _
end Go.Proofs.YtijdbdenmcjmmaaGreatDoor
end
section
namespace Go.Proofs.YtijdbdenmcjmmaaGreatDoor
open Go.RowKit OctMath
set_option linter.unusedVariables false
structure Got {α : Type} (r : List Nat → Rd α) (x : α) (ys : List Nat) : Prop where
  rd : ∀ pre rest, r (pre ++ (ys ++ rest)) pre.length = some (x, (pre ++ ys).length)
theorem Got.pure {α : Type} (x : α) : Got (fun _ => Rd.pure x) x [] := ⟨fun pre rest => by simp [Rd.pure]⟩
theorem Got.bind {α β : Type} {r : List Nat → Rd α} {f : List Nat → α → Rd β} {x : α} {y : β} {ys zs : List Nat} (h : Got r x ys) (k : Got (fun bs => f bs x) y zs) : Got (fun bs => (r bs).bind (f bs)) y (ys ++ zs) := by
  refine ⟨fun pre rest => ?_⟩
  have e1 : pre ++ ((ys ++ zs) ++ rest) = pre ++ (ys ++ (zs ++ rest)) := by simp only [List.append_assoc]
  have e2 : pre ++ (ys ++ (zs ++ rest)) = (pre ++ ys) ++ (zs ++ rest) := by simp only [List.append_assoc]
  have h1 := h.rd pre (zs ++ rest)
  have h2 := k.rd (pre ++ ys) rest
  show ((r _).bind (f _)) pre.length = _
  rw [e1, Rd.bind_some h1, e2, h2, List.append_assoc]
theorem Got.last {α β : Type} {r : List Nat → Rd α} {f : α → β} {x : α} {ys : List Nat} (h : Got r x ys) : Got (fun bs => (r bs).bind fun x => Rd.pure (f x)) (f x) ys := by
  have := h.bind (f := fun _ x => Rd.pure (f x)) (Got.pure (f x))
  rwa [List.append_nil] at this
theorem got_num {n : Nat} (hn : n < 18446744073709551616) : Got rNum n (putN n) := by
  refine ⟨fun pre rest => ?_⟩
  have h := rdN_put pre n rest hn
  show (if (rdN (pre ++ (putN n ++ rest)) pre.length).2.2 = 0 then _ else _) = _
  rw [h, if_pos rfl, List.length_append]
  rfl
theorem got_int {x : Int} (h : I64 x) : Got rInt x (pInt x) := by
  refine ⟨fun pre rest => ?_⟩
  have h1 := (got_num (zz_lt h.1 h.2)).rd pre rest
  unfold rInt pInt
  rw [h1]
  simp only [Option.map_some, unz_zz]
theorem got_word {n : Nat} (hn : n < 4294967296) : Got rWord n (putN n) := by
  refine ⟨fun pre rest => ?_⟩
  have h1 := (got_num (n := n) (by omega)).rd pre rest
  unfold rWord
  rw [h1]
  simp only
  rw [if_pos hn]
theorem got_flag (b : Bool) : Got rFlag b (pFlag b) := by
  refine ⟨fun pre rest => ?_⟩
  have e : (pre ++ (pFlag b ++ rest)).getD pre.length 0 = (if b then 1 else 0) := by
    rw [List.getD_eq_getElem?_getD, List.getElem?_append_right (Nat.le_refl _), Nat.sub_self]
    rfl
  unfold rFlag
  rw [e, if_pos ⟨by rw [List.length_append]; unfold pFlag; simp, by split <;> omega⟩, List.length_append]
  cases b <;> rfl
theorem got_text {x : List Nat} (h : x.length ≤ 1048576) : Got rText x (pText x) := by
  refine ⟨fun pre rest => ?_⟩
  have h1 := rdN_put pre x.length (x ++ rest) (by omega)
  have e : pre ++ (pText x ++ rest) = pre ++ (putN x.length ++ (x ++ rest)) := by unfold pText; simp only [List.append_assoc]
  have h2 : rdB (pre ++ (pText x ++ rest)) pre.length 1048576 = (x, (((pre ++ pText x).length : Nat) : Int), 0) := by
    unfold rdB
    rw [e, h1]
    show (if (0 : Nat) ≠ 0 then _ else _ : List Nat × Int × Nat) = _
    rw [if_neg (by simp)]
    show (if _ ∨ _ ∨ _ then _ else _ : List Nat × Int × Nat) = _
    rw [if_neg (by simp only [List.length_append]; omega)]
    have e3 : ((pre ++ (putN x.length ++ (x ++ rest))).drop (pre.length + (putN x.length).length)).take x.length = x := by
      rw [← List.append_assoc, show pre.length + (putN x.length).length = (pre ++ putN x.length).length from by simp, List.drop_left, List.take_left]
    refine Prod.ext e3 (Prod.ext ?_ rfl)
    unfold pText
    simp only [List.length_append]
    omega
  show (if (rdB (pre ++ (pText x ++ rest)) pre.length 1048576).2.2 = 0 then _ else _) = _
  rw [h2, if_pos rfl]
  rfl
theorem got_times {α : Type} {one : List Nat → Rd α} {put : α → List Nat} : ∀ (n : Nat) (l : List α), l.length = n → (∀ x ∈ l, Got one x (put x)) → Got (fun bs => rTimes (one bs) n) l (l.flatMap put)
  | 0, l, hl, _ => by
    obtain rfl := List.eq_nil_of_length_eq_zero hl
    exact Got.pure []
  | n + 1, l, hl, h => by
    have hne : l ≠ [] := fun e => by rw [e] at hl; simp at hl
    have e := List.dropLast_concat_getLast hne
    have h1 := got_times n l.dropLast (by rw [List.length_dropLast]; omega) (fun x hx => h x ((List.dropLast_sublist l).subset hx))
    have h2 := h (l.getLast hne) (List.getLast_mem hne)
    have h3 := (h1.bind (f := fun bs l => (one bs).bind fun x => Rd.pure (l ++ [x])) (h2.last (f := fun x => l.dropLast ++ [x])))
    rw [e] at h3
    have e2 : l.flatMap put = l.dropLast.flatMap put ++ put (l.getLast hne) := by
      conv => lhs; rw [← e]
      rw [List.flatMap_append]
      simp
    rw [e2]
    exact h3
theorem flat_ge {α : Type} {put : α → List Nat} (h : ∀ x, 0 < (put x).length) : ∀ l : List α, l.length ≤ (l.flatMap put).length
  | [] => by simp
  | x :: l => by
    have h1 := h x
    have h2 := flat_ge h l
    rw [List.flatMap_cons, List.length_append, List.length_cons]
    omega
theorem got_list {α : Type} {one : List Nat → Rd α} {put : α → List Nat} {l : List α} (hp : ∀ x, 0 < (put x).length) (hl : l.length ≤ 1048576) (h : ∀ x ∈ l, Got one x (put x)) : Got (fun bs => rList bs (one bs)) l (pList put l) := by
  refine ⟨fun pre rest => ?_⟩
  have h1 := (got_num (n := l.length) (by omega)).rd pre (l.flatMap put ++ rest)
  have e1 : pre ++ (pList put l ++ rest) = pre ++ (putN l.length ++ (l.flatMap put ++ rest)) := by unfold pList; simp only [List.append_assoc]
  have e2 : pre ++ (putN l.length ++ (l.flatMap put ++ rest)) = (pre ++ putN l.length) ++ (l.flatMap put ++ rest) := by simp only [List.append_assoc]
  have h2 := (got_times l.length l rfl h).rd (pre ++ putN l.length) rest
  unfold rList
  rw [e1, Rd.bind_some h1]
  rw [if_neg]
  · rw [e2, h2]
    unfold pList
    simp only [List.append_assoc]
  · have := flat_ge hp l
    simp only [List.length_append]
    omega
theorem pMem_pos (x : Int × Int) : 0 < (pMem x).length := by unfold pMem; rw [List.length_append]; have := pInt_pos x.1; omega
theorem got_ints {l : List Int} (h : IntsOk l) : Got (fun bs => rList bs (rInt bs)) l (pList pInt l) := got_list pInt_pos h.2 (fun x hx => got_int (h.1 x hx))
theorem got_mem {x : Int × Int} (h : MemOk x) : Got rMem x (pMem x) := (got_int h.1).bind (f := fun bs i => (rInt bs).bind fun w => Rd.pure (i, w)) ((got_int h.2).last)
theorem got_mems {l : List (Int × Int)} (h : (∀ y ∈ l, MemOk y) ∧ l.length ≤ 1048576) : Got (fun bs => rList bs (rMem bs)) l (pList pMem l) := got_list pMem_pos h.2 (fun x hx => got_mem (h.1 x hx))
theorem got_map {x : Nat × List (Int × Int)} (h : MapOk x) : Got rMap x (pMap x) := (got_num h.1).bind (f := fun bs e => (rList bs (rMem bs)).bind fun l => Rd.pure (e, l)) ((got_mems h.2).last)
theorem got_conf {x : List Int × List Int} (h : IntsOk x.1 ∧ IntsOk x.2) : Got rConf x (pConf x) := (got_ints h.1).bind (f := fun bs v => (rList bs (rInt bs)).bind fun l => Rd.pure (v, l)) ((got_ints h.2).last)
theorem got_id {x : IdT} (h : IdOk x) : Got rId x (pId x) :=
  (got_num h.1).bind (f := fun bs v => (rInt bs).bind fun i => (rNum bs).bind fun e => Rd.pure (⟨v, i, e⟩ : IdT)) ((got_int h.2.1).bind (f := fun bs i => (rNum bs).bind fun e => Rd.pure (⟨x.ver, i, e⟩ : IdT)) ((got_num h.2.2).last))
theorem got_cmd {x : CmdT} (h : CmdOk x) : Got rCmd x (pCmd x) := by
  refine (got_int h.kind).bind (f := fun bs x1 => _) ?_
  refine (got_num h.client).bind (f := fun bs x2 => _) ?_
  refine (got_num h.seq).bind (f := fun bs x3 => _) ?_
  refine (got_text h.key.2).bind (f := fun bs x4 => _) ?_
  refine (got_int h.size).bind (f := fun bs x5 => _) ?_
  refine (got_word h.sum).bind (f := fun bs x6 => _) ?_
  refine (got_num h.version).bind (f := fun bs x7 => _) ?_
  refine (got_num h.epoch).bind (f := fun bs x8 => _) ?_
  refine (got_int h.group).bind (f := fun bs x9 => _) ?_
  refine (got_int h.node).bind (f := fun bs x10 => _) ?_
  refine (got_flag x.up).bind (f := fun bs x11 => _) ?_
  refine (got_id h.id_).bind (f := fun bs x12 => _) ?_
  exact (got_map h.map_).last
theorem got_ent {x : EntT} (h : EntOk x) : Got rEnt x (pEnt x) := by
  refine (got_num h.index).bind (f := fun bs x1 => _) ?_
  refine (got_num h.term).bind (f := fun bs x2 => _) ?_
  refine (got_int h.kind).bind (f := fun bs x3 => _) ?_
  refine (got_cmd h.cmd).bind (f := fun bs x4 => _) ?_
  exact (got_conf (x := (x.voters, x.learners)) ⟨h.vot, h.lea⟩).last
end Go.Proofs.YtijdbdenmcjmmaaGreatDoor
end
section
namespace Go.Proofs.YtijdbdenmcjmmaaGreatDoor
open Go.RowKit OctMath
set_option linter.unusedVariables false
def Off (v : Value) (n : Nat) (A : Option Addr) : Prop := 0 < n → ∀ ad, A = some ad → v.ownBlock ≠ some ad.block
structure Subs (lo : Nat) (v : Value) (l : List (Option Addr × Nat × List Int)) (w : World) : Prop where
  all : ∀ m ∈ l, Lst lo 1 m.1 m.2.1 m.2.2.length (m.2.2.map iv) w ∧ Off v m.2.2.length m.1
theorem Subs.nil (lo : Nat) (v : Value) (w : World) : Subs lo v [] w := ⟨fun m h => by cases h⟩
theorem Subs.keep {lo g : Nat} {v : Value} {l : List (Option Addr × Nat × List Int)} {w w' : World} (h : Subs lo v l w) (hk : Keep (Not g) w w') (hg : g < lo) : Subs lo v l w' := ⟨fun m hm => ⟨(h.all m hm).1.keep hk hg, (h.all m hm).2⟩⟩
theorem Lst.lt {lo size : Nat} {A : Option Addr} {c k : Nat} {xs : List Value} {w : World} (h : Lst lo size A c k xs w) (hk : 0 < k) {ad : Addr} (e : A = some ad) : ad.block < w.heap.size := by
  obtain ⟨ad', e', hb, -⟩ := h.rd.2 hk
  rw [e] at e'
  obtain rfl := Option.some.inj e'
  exact hb
theorem Subs.more {lo : Nat} {v v' : Value} {l : List (Option Addr × Nat × List Int)} {w w' : World} {o : Obj} (h : Subs lo v l w) (hg : (w.alloc o).grownBy w' v.ownBlock) (hv : v'.ownBlock = v.ownBlock ∨ v'.ownBlock = some (w.alloc o).heap.size) : Subs lo v' l w' := by
  refine ⟨fun m hm => ?_⟩
  obtain ⟨h1, h2⟩ := h.all m hm
  have hs : (w.alloc o).heap.size = w.heap.size + 1 := by simp
  refine ⟨⟨⟨h1.rd.1, fun hn => ?_⟩, h1.lo, h1.kc, h1.cm⟩, fun hn ad e => ?_⟩
  · obtain ⟨ad, e, hb, hc⟩ := h1.rd.2 hn
    refine ⟨ad, e, by have := hg.size; omega, fun j u hu => ?_⟩
    rw [← hc j u hu]
    refine World.cell?_of_block ?_
    rw [block_of_add]
    rw [hg.block _ (by omega) (fun e' => h2 hn ad e e'.symm)]
    exact heap_alloc_old w o hb
  · have := h1.lt hn e
    rcases hv with hv | hv
    · rw [hv]; exact h2 hn ad e
    · rw [hv]; intro e'; injection e' with e'; omega
end Go.Proofs.YtijdbdenmcjmmaaGreatDoor
end
section
namespace Go.Proofs.YtijdbdenmcjmmaaGreatDoor
open Go.RowKit OctMath
open Go.ChangeShapes Go.WideShapes Go.Deep
set_option linter.unusedVariables false
set_option linter.unusedSimpArgs false
section
variable {H : Type} {enc : TypeId × Value → H} {w : World} {base : Nat} {sp : Nat → Bool} {held : Bool}
structure CmdW (c : CmdT) : Prop where
  kind : I64 c.kind
  client : c.client < 18446744073709551616
  seq : c.seq < 18446744073709551616
  key : ∀ y ∈ c.key, y < 256
  size : I64 c.size
  sum : c.sum < 4294967296
  version : c.version < 18446744073709551616
  epoch : c.epoch < 18446744073709551616
  group : I64 c.group
  node : I64 c.node
  id : IdOk c.id
  mep : c.mep < 18446744073709551616
  mem : ∀ y ∈ c.mem, MemOk y
theorem CmdW.ok {c : CmdT} (h : CmdW c) (h1 : c.key.length ≤ 1048576) (h2 : c.mem.length ≤ 1048576) : CmdOk c := ⟨h.kind, h.client, h.seq, ⟨h.key, h1⟩, h.size, h.sum, h.version, h.epoch, h.group, h.node, h.id, h.mep, h.mem, h2⟩
structure EntW (x : EntT) : Prop where
  index : x.index < 18446744073709551616
  term : x.term < 18446744073709551616
  kind : I64 x.kind
  cmd : CmdW x.cmd
  vot : ∀ y ∈ x.voters, I64 y
  lea : ∀ y ∈ x.learners, I64 y
theorem EntW.ok {x : EntT} (h : EntW x) (h1 : x.cmd.key.length ≤ 1048576) (h2 : x.cmd.mem.length ≤ 1048576) (h3 : x.voters.length ≤ 1048576) (h4 : x.learners.length ≤ 1048576) : EntOk x := ⟨h.index, h.term, h.kind, h.cmd.ok h1 h2, ⟨h.vot, h3⟩, ⟨h.lea, h4⟩⟩
structure EM where
  x : EntT
  A : Option Addr
  c : Nat
  B : Option Addr
  d : Nat
  E : Option Addr
  f : Nat
def emCs (m : EM) : List Value := (#[.int .u64 (m.x.index : Int), .int .u64 (m.x.term : Int), .int .i64 m.x.kind, .int .i64 m.x.cmd.kind, .int .u64 (m.x.cmd.client : Int), .int .u64 (m.x.cmd.seq : Int), .string (strOf m.x.cmd.key), .int .i64 m.x.cmd.size, .int .u32 (m.x.cmd.sum : Int), .int .u64 (m.x.cmd.version : Int), .int .u64 (m.x.cmd.epoch : Int), .int .i64 m.x.cmd.group, .int .i64 m.x.cmd.node, .bool m.x.cmd.up, .int .u64 (m.x.cmd.id.ver : Int), .int .i64 m.x.cmd.id.idx, .int .u64 (m.x.cmd.id.ep : Int), .int .u64 (m.x.cmd.mep : Int), .slice m.A m.x.cmd.mem.length m.c, .slice m.B m.x.voters.length m.d, .slice m.E m.x.learners.length m.f] : Array Value).toList
structure EmIn (w : World) (m : EM) : Prop where
  r1 : Reads w w.heap.size 2 m.A m.x.cmd.mem.length (mcells m.x.cmd.mem)
  r2 : Reads w w.heap.size 1 m.B m.x.voters.length (m.x.voters.map iv)
  r3 : Reads w w.heap.size 1 m.E m.x.learners.length (m.x.learners.map iv)
  ok : EntW m.x
end
end Go.Proofs.YtijdbdenmcjmmaaGreatDoor
end
section
namespace Go.Proofs.YtijdbdenmcjmmaaGreatDoor
open Go.RowKit OctMath
set_option linter.unusedVariables false
set_option linter.unusedSimpArgs false
structure MsgT where
  kind : Int
  from_ : Int
  to_ : Int
  term : Nat
  index : Nat
  logTerm : Nat
  commit : Nat
  ctx : Nat
  okf : Bool
  force : Bool
  ents : List EntT
  vot : List Int
  lea : List Int
  head : HdT
  data : List Nat
  client : Nat
  seq : Nat
  op : Int
  key : List Nat
  code : Int
  names : List (List Nat)
def TxtOk (x : List Nat) : Prop := (∀ y ∈ x, y < 256) ∧ x.length ≤ 1048576
structure MsgOk (x : MsgT) : Prop where
  kind : I64 x.kind
  from_ : I64 x.from_
  to_ : I64 x.to_
  term : x.term < 18446744073709551616
  index : x.index < 18446744073709551616
  logTerm : x.logTerm < 18446744073709551616
  commit : x.commit < 18446744073709551616
  ctx : x.ctx < 18446744073709551616
  ents : (∀ y ∈ x.ents, EntOk y) ∧ x.ents.length ≤ 1048576
  conf : IntsOk x.vot ∧ IntsOk x.lea
  head : HdOk x.head
  data : TxtOk x.data
  client : x.client < 18446744073709551616
  seq : x.seq < 18446744073709551616
  op : I64 x.op
  key : TxtOk x.key
  code : I64 x.code
  names : (∀ y ∈ x.names, TxtOk y) ∧ x.names.length ≤ 1048576
def rMsg (bs : List Nat) : Rd MsgT := (rInt bs).bind fun x1 => (rInt bs).bind fun x2 => (rInt bs).bind fun x3 => (rNum bs).bind fun x4 => (rNum bs).bind fun x5 => (rNum bs).bind fun x6 => (rNum bs).bind fun x7 => (rNum bs).bind fun x8 => (rFlag bs).bind fun x9 => (rFlag bs).bind fun x10 => (rList bs (rEnt bs)).bind fun x11 => (rConf bs).bind fun x12 => (rHd bs).bind fun x13 => (rText bs).bind fun x14 => (rNum bs).bind fun x15 => (rNum bs).bind fun x16 => (rInt bs).bind fun x17 => (rText bs).bind fun x18 => (rInt bs).bind fun x19 => (rList bs (rText bs)).bind fun x20 => Rd.pure ⟨x1, x2, x3, x4, x5, x6, x7, x8, x9, x10, x11, x12.1, x12.2, x13, x14, x15, x16, x17, x18, x19, x20⟩
def pMsg (x : MsgT) : List Nat := pInt x.kind ++ (pInt x.from_ ++ (pInt x.to_ ++ (putN x.term ++ (putN x.index ++ (putN x.logTerm ++ (putN x.commit ++ (putN x.ctx ++ (pFlag x.okf ++ (pFlag x.force ++ (pList pEnt x.ents ++ (pConf (x.vot, x.lea) ++ (pHd x.head ++ (pText x.data ++ (putN x.client ++ (putN x.seq ++ (pInt x.op ++ (pText x.key ++ (pInt x.code ++ (pList pText x.names)))))))))))))))))))
theorem pEnt_pos' (x : EntT) : 0 < (pEnt x).length := by unfold pEnt; simp only [List.length_append]; have := putN_pos x.index; omega
theorem pText_pos (x : List Nat) : 0 < (pText x).length := by unfold pText; simp only [List.length_append]; have := putN_pos x.length; omega
theorem got_hd {x : HdT} (h : HdOk x) : Got rHd x (pHd x) := by
  refine (got_id (x := x.id) ⟨h.ver, h.idx, h.ep⟩).bind (f := fun bs x1 => _) ?_
  refine (got_int h.k).bind (f := fun bs x2 => _) ?_
  refine (got_int h.n).bind (f := fun bs x3 => _) ?_
  refine (got_int h.size).bind (f := fun bs x4 => _) ?_
  exact (got_word h.sum).last
theorem got_msg {x : MsgT} (h : MsgOk x) : Got rMsg x (pMsg x) := by
  refine (got_int h.kind).bind (f := fun bs x1 => _) ?_
  refine (got_int h.from_).bind (f := fun bs x2 => _) ?_
  refine (got_int h.to_).bind (f := fun bs x3 => _) ?_
  refine (got_num h.term).bind (f := fun bs x4 => _) ?_
  refine (got_num h.index).bind (f := fun bs x5 => _) ?_
  refine (got_num h.logTerm).bind (f := fun bs x6 => _) ?_
  refine (got_num h.commit).bind (f := fun bs x7 => _) ?_
  refine (got_num h.ctx).bind (f := fun bs x8 => _) ?_
  refine (got_flag x.okf).bind (f := fun bs x9 => _) ?_
  refine (got_flag x.force).bind (f := fun bs x10 => _) ?_
  refine (got_list (one := rEnt) pEnt_pos' h.ents.2 (fun y hy => got_ent (h.ents.1 y hy))).bind (f := fun bs x11 => _) ?_
  refine (got_conf h.conf).bind (f := fun bs x12 => _) ?_
  refine (got_hd h.head).bind (f := fun bs x13 => _) ?_
  refine (got_text h.data.2).bind (f := fun bs x14 => _) ?_
  refine (got_num h.client).bind (f := fun bs x15 => _) ?_
  refine (got_num h.seq).bind (f := fun bs x16 => _) ?_
  refine (got_int h.op).bind (f := fun bs x17 => _) ?_
  refine (got_text h.key.2).bind (f := fun bs x18 => _) ?_
  refine (got_int h.code).bind (f := fun bs x19 => _) ?_
  exact (got_list (one := rText) pText_pos h.names.2 (fun y hy => got_text (h.names.1 y hy).2)).last
end Go.Proofs.YtijdbdenmcjmmaaGreatDoor
end
