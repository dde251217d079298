/-
  WHAT THE REFERENCE'S P COMES TO: writing, it puts; reading, it reads. Plain; THE REFERENCE'S WRITER: the exported functions; what is the same. (printed by gen_pas4.py). (joined out of PaQ9, PaQ10 by shake.py)
-/
import Derived.Test.YthgiafjiemiifaaGreatPst18
import Derived.Test.YthgiafjiemiifaaGreatPst15
import Derived.Test.YthgiafjiemiifaaGreatPst20
section
namespace Go.Proofs.YthgiafjiemiifaaGreat
open Go.RowKit OctMath
set_option linter.unusedVariables false
set_option linter.unusedSectionVars false
/-! ### Writing -/
theorem w_it {α β : Type} (g : Nat) {one : List Nat → α → List Nat × β} {put : α → List Nat} (h : ∀ s x, (one s x).1 = s ++ put x) (l : List α) (z : α) (s : List Nat) : ∀ k, k ≤ l.length → (itF (wMd g) one (fun i => l.getD i z) k s).1 = s ++ (l.take k).flatMap put
  | 0, _ => by simp [itF]
  | k + 1, hk => by
    have ih := w_it g h l z s k (by omega)
    show (if false = true then _ else _ : List Nat × List β).1 = _
    rw [if_neg (by simp), h, ih, flat_take put l z k (by omega), List.append_assoc]
theorem w_ints (g : Nat) (s : List Nat) (l : List Int) : (intsF (wMd g) s l).1 = s ++ pList pInt l := by
  have h := w_it g (one := (wMd g).int) (put := pInt) (fun s x => rfl) l 0 (s ++ putN l.length) l.length (Nat.le_refl _)
  rw [List.take_length] at h
  show (itF (wMd g) (wMd g).int (fun i => l.getD i 0) l.length (s ++ putN l.length)).1 = _
  rw [h]; unfold pList; rw [List.append_assoc]
theorem w_id (g : Nat) (s : List Nat) (x : IdT) : (idF (wMd g) s x).1 = s ++ pId x := by
  simp only [idF, bnd, wMd, pId, pInt, List.append_assoc]
theorem w_conf (g : Nat) (s : List Nat) (x : List Int × List Int) : (confF (wMd g) s x).1 = s ++ pConf x := by
  show (intsF (wMd g) (intsF (wMd g) s x.1).1 x.2).1 = _
  rw [w_ints, w_ints]; unfold pConf; rw [List.append_assoc]
theorem w_mem (g : Nat) (s : List Nat) (x : Int × Int) : (memF (wMd g) s x).1 = s ++ pMem x := by
  simp only [memF, bnd, wMd, pMem, pInt, List.append_assoc]
theorem w_mems (g : Nat) (s : List Nat) (l : List (Int × Int)) : (memsF (wMd g) s l).1 = s ++ pList pMem l := by
  have h := w_it g (one := memF (wMd g)) (put := pMem) (fun s x => w_mem g s x) l (0, 0) (s ++ putN l.length) l.length (Nat.le_refl _)
  rw [List.take_length] at h
  show (itF (wMd g) (memF (wMd g)) (fun i => l.getD i (0, 0)) l.length (s ++ putN l.length)).1 = _
  rw [h]; unfold pList; rw [List.append_assoc]
theorem w_map (g : Nat) (s : List Nat) (x : Nat × List (Int × Int)) : (mapF (wMd g) s x).1 = s ++ pMap x := by
  show (memsF (wMd g) (s ++ putN x.1) x.2).1 = _
  rw [w_mems]; unfold pMap; rw [List.append_assoc]
theorem w_flag (b : Bool) : [b.toNat] = pFlag b := by cases b <;> rfl
theorem w_cmd (g : Nat) (s : List Nat) (x : CmdT) : (cmdF (wMd g) s x).1 = s ++ pCmd x := by
  show (mapF (wMd g) (idF (wMd g) (s ++ putN (zz x.kind) ++ putN x.client ++ putN x.seq ++ (putN x.key.length ++ x.key) ++ putN (zz x.size) ++ putN x.sum ++ putN x.version ++ putN x.epoch ++ putN (zz x.group) ++ putN (zz x.node) ++ [x.up.toNat]) x.id).1 (x.mep, x.mem)).1 = _
  rw [w_map, w_id, w_flag]
  simp only [pCmd, pInt, pText, List.append_assoc]
theorem w_ent (g : Nat) (s : List Nat) (x : EntT) : (entF (wMd g) s x).1 = s ++ pEnt x := by
  show (confF (wMd g) (cmdF (wMd g) (s ++ putN x.index ++ putN x.term ++ putN (zz x.kind)) x.cmd).1 (x.voters, x.learners)).1 = _
  rw [w_conf, w_cmd]
  simp only [pEnt, pInt, List.append_assoc]
/-! ### Reading -/
abbrev RS_ := Int × Bool
/-- F sees what r reads. -/
structure Sees {α : Type} (F : RS_ → RS_ × α) (r : Rd α) : Prop where
  good : ∀ p y q, r p = some (y, q) → F ((p : Int), false) = (((q : Int), false), y)
  fail : ∀ p, r p = none → (F ((p : Int), false)).1.2 = true
  bad : ∀ q : Int, (F (q, true)).1.2 = true
/-- Out of range nothing is seen. -/
def Outs {α : Type} (n : Nat) (F : RS_ → RS_ × α) : Prop := ∀ q : Int, q < 0 ∨ (n : Int) < q → (F (q, false)).1.2 = true
theorem state_eq {s : RS_} (h : s.2 = true) : s = (s.1, true) := by rw [← h]
theorem Sees.pure {α : Type} (x : α) : Sees (fun s => (s, x)) (Rd.pure x) := ⟨fun p y q h => by cases h; rfl, fun p h => (by cases h), fun _ => rfl⟩
theorem Sees.bind {α β : Type} {F : RS_ → RS_ × α} {r : Rd α} {G : RS_ → α → RS_ × β} {k : α → Rd β} (h : Sees F r) (hk : ∀ x, Sees (fun s => G s x) (k x)) : Sees (fun s => bnd (F s) G) (r.bind k) := by
  refine ⟨fun p y q e => ?_, fun p e => ?_, fun q => ?_⟩
  · unfold Rd.bind at e
    cases h1 : r p with
    | none => rw [h1] at e; cases e
    | some v =>
      obtain ⟨x, p1⟩ := v
      rw [h1] at e
      show bnd (F ((p : Int), false)) G = _
      rw [h.good p x p1 h1, bnd_mk]
      exact (hk x).good p1 y q e
  · show (bnd (F ((p : Int), false)) G).1.2 = true
    unfold Rd.bind at e
    cases h1 : r p with
    | none =>
      have hb := h.fail p h1
      generalize F ((p : Int), false) = r2 at hb ⊢
      obtain ⟨s, x⟩ := r2
      have hb : s.2 = true := hb
      rw [bnd_mk]
      rw [state_eq hb]
      exact (hk x).bad _
    | some v =>
      obtain ⟨x, p1⟩ := v
      rw [h1] at e
      rw [h.good p x p1 h1, bnd_mk]
      exact (hk x).fail p1 e
  · show (bnd (F (q, true)) G).1.2 = true
    have hb := h.bad q
    generalize F (q, true) = r2 at hb ⊢
    obtain ⟨s, x⟩ := r2
    have hb : s.2 = true := hb
    rw [bnd_mk]
    rw [state_eq hb]
    exact (hk x).bad _
theorem Outs.bind {α β : Type} {n : Nat} {F : RS_ → RS_ × α} {G : RS_ → α → RS_ × β} {k : α → Rd β} (h : Outs n F) (hk : ∀ x, Sees (fun s => G s x) (k x)) : Outs n (fun s => bnd (F s) G) := fun q hq => by
  show (bnd (F (q, false)) G).1.2 = true
  have hb := h q hq
  generalize F (q, false) = r2 at hb ⊢
  obtain ⟨s, x⟩ := r2
  have hb : s.2 = true := hb
  rw [bnd_mk]
  rw [state_eq hb]
  exact (hk x).bad _
section
variable {bs : List Nat} (hb : Byt bs)
include hb
theorem see_u64 : Sees (u64R bs) (rNum bs) := by
  refine ⟨fun p y q h => ?_, fun p h => ?_, fun q => ?_⟩
  · unfold rNum at h
    have h2 := (rdN_lt bs p hb).2.1
    unfold u64R
    split at h
    · rename_i he
      rw [if_pos ⟨rfl, he⟩]
      injection h with h
      injection h with h3 h4
      rw [← h3, ← h4]
      simp only [Prod.mk.injEq, and_true]
      omega
    · cases h
  · unfold rNum at h
    unfold u64R
    split at h
    · cases h
    · rename_i he
      rw [if_neg (fun h => he h.2)]
  · unfold u64R
    rw [if_neg (by simp)]
theorem see_int : Sees (intR bs) (rInt bs) := by
  have h0 := see_u64 hb
  refine ⟨fun p y q h => ?_, fun p h => ?_, fun q => ?_⟩
  · unfold rInt at h
    cases h1 : rNum bs p with
    | none => rw [h1] at h; cases h
    | some v =>
      obtain ⟨x, q1⟩ := v
      rw [h1] at h
      simp only [Option.map_some, Option.some.injEq, Prod.mk.injEq] at h
      obtain ⟨rfl, rfl⟩ := h
      have h2 := h0.good p x q1 h1
      unfold u64R at h2
      unfold intR
      split at h2
      · rename_i hc
        rw [if_pos hc]
        simp only [Prod.mk.injEq, and_true] at h2 ⊢
        exact ⟨h2.1, by rw [h2.2]⟩
      · simp at h2
  · unfold rInt at h
    have h1 : rNum bs p = none := by
      cases h1 : rNum bs p with
      | none => rfl
      | some v => rw [h1] at h; cases h
    have h2 := h0.fail p h1
    unfold u64R at h2
    unfold intR
    split at h2
    · cases h2
    · rename_i hc; rw [if_neg hc]
  · unfold intR
    rw [if_neg (by simp)]
theorem see_u32 : Sees (u32R bs) (rWord bs) := by
  have h0 := see_u64 hb
  refine ⟨fun p y q h => ?_, fun p h => ?_, fun q => ?_⟩
  · unfold rWord at h
    cases h1 : rNum bs p with
    | none => rw [h1] at h; cases h
    | some v =>
      obtain ⟨x, q1⟩ := v
      rw [h1] at h
      simp only at h
      split at h
      · rename_i hc
        injection h with h
        injection h with h3 h4
        subst h3 h4
        unfold u32R
        rw [h0.good p x q1 h1, if_pos hc]
      · cases h
  · unfold rWord at h
    cases h1 : rNum bs p with
    | none =>
      have h2 := h0.fail p h1
      unfold u32R
      split
      · exact h2
      · rfl
    | some v =>
      obtain ⟨x, q1⟩ := v
      rw [h1] at h
      simp only at h
      split at h
      · cases h
      · rename_i hc
        unfold u32R
        rw [h0.good p x q1 h1, if_neg hc]
  · have h2 := h0.bad q
    unfold u32R
    split
    · exact h2
    · rfl
omit hb in
theorem see_flag : Sees (flagR bs) (rFlag bs) := by
  refine ⟨fun p y q h => ?_, fun p h => ?_, fun q => ?_⟩
  · unfold rFlag at h
    unfold flagR
    have e : rdFlI bs (p : Int) = rdFl bs p := by unfold rdFlI; rw [if_neg (by omega)]; rfl
    show (if _ ∧ (rdFlI bs (p : Int)).2.2 = 0 then _ else _ : RS_ × Bool) = _
    rw [e]
    split at h
    · rename_i hc
      have e2 : rdFl bs p = (decide (0 < bs.getD p 0), (p : Int) + 1, 0) := by unfold rdFl; rw [if_pos hc.1, if_pos hc.2]
      rw [e2]
      simp only [Option.some.injEq, Prod.mk.injEq] at h
      rw [if_pos ⟨rfl, rfl⟩, ← h.1, ← h.2]
      simp
    · cases h
  · unfold rFlag at h
    unfold flagR
    have e : rdFlI bs (p : Int) = rdFl bs p := by unfold rdFlI; rw [if_neg (by omega)]; rfl
    show (if _ ∧ (rdFlI bs (p : Int)).2.2 = 0 then _ else _ : RS_ × Bool).1.2 = true
    rw [e]
    split at h
    · cases h
    · rename_i hc
      have e2 : (rdFl bs p).2.2 ≠ 0 := by
        unfold rdFl
        split
        · rename_i h1
          rw [if_neg (fun h2 => hc ⟨h1, h2⟩)]; simp
        · split <;> simp
      rw [if_neg (fun h => e2 h.2)]
  · unfold flagR
    rw [if_neg (by simp)]
theorem see_text : Sees (bytesR bs) (rText bs) := by
  refine ⟨fun p y q h => ?_, fun p h => ?_, fun q => ?_⟩
  · unfold rText at h
    unfold bytesR
    split at h
    · rename_i he
      rw [if_pos ⟨rfl, he⟩]
      injection h with h
      injection h with h3 h4
      have h2 : 0 ≤ (rdB bs p 1048576).2.1 := (rdB_rng bs p 1048576 hb he).1
      rw [← h3, ← h4]
      simp only [Prod.mk.injEq, and_true]
      omega
    · cases h
  · unfold rText at h
    unfold bytesR
    split at h
    · cases h
    · rename_i he
      rw [if_neg (fun h => he h.2)]
  · unfold bytesR
    rw [if_neg (by simp)]
end
/-- What is read where P has gone bad stays bad. -/
theorem see_it {α β : Type} {g n cap : Nat} {A : Option Addr} {bs : List Nat} {one : RS_ → α → RS_ × β} {r : Rd β} {z : α} (h : Sees (fun s => one s z) r) : ∀ k, Sees (fun s => itF (rMd g A n cap bs) one (fun i => ([] : List α).getD i z) k s) (rTimes r k)
  | 0 => Sees.pure []
  | k + 1 => by
    have ih := see_it (g := g) (n := n) (cap := cap) (A := A) (bs := bs) h k
    refine ⟨fun p y q e => ?_, fun p e => ?_, fun q => ?_⟩
    · have e' : (rTimes r k).bind (fun l => r.bind fun x => Rd.pure (l ++ [x])) p = some (y, q) := e
      cases h1 : rTimes r k p with
      | none => rw [Rd.bind_none h1] at e'; cases e'
      | some v =>
        obtain ⟨l, p1⟩ := v
        rw [Rd.bind_some h1] at e'
        cases h2 : r p1 with
        | none => rw [Rd.bind_none h2] at e'; cases e'
        | some v =>
          obtain ⟨x, p2⟩ := v
          rw [Rd.bind_some h2] at e'
          cases e'
          show (if (itF (rMd g A n cap bs) one (fun i => ([] : List α).getD i z) k ((p : Int), false)).1.2 = true then _ else _ : RS_ × List β) = _
          have hg := ih.good p l p1 h1
          rw [hg, if_neg (by simp)]
          have hx := h.good p1 x q h2
          show ((one ((p1 : Int), false) z).1, l ++ [(one ((p1 : Int), false) z).2]) = _
          rw [hx]
    · have e' : (rTimes r k).bind (fun l => r.bind fun x => Rd.pure (l ++ [x])) p = none := e
      show (if (itF (rMd g A n cap bs) one (fun i => ([] : List α).getD i z) k ((p : Int), false)).1.2 = true then _ else _ : RS_ × List β).1.2 = true
      cases h1 : rTimes r k p with
      | none =>
        have hf := ih.fail p h1
        rw [if_pos hf]
        exact hf
      | some v =>
        obtain ⟨l, p1⟩ := v
        rw [Rd.bind_some h1] at e'
        have hg := ih.good p l p1 h1
        rw [hg, if_neg (by simp)]
        cases h2 : r p1 with
        | none => exact h.fail p1 h2
        | some v => rw [Rd.bind_some h2] at e'; cases e'
    · show (if (itF (rMd g A n cap bs) one (fun i => ([] : List α).getD i z) k (q, true)).1.2 = true then _ else _ : RS_ × List β).1.2 = true
      have hf := ih.bad q
      rw [if_pos hf]
      exact hf
section
variable {g n cap : Nat} {A : Option Addr} {bs : List Nat} (hb : Byt bs)
include hb
theorem see_list {α β : Type} {one : RS_ → α → RS_ × β} {r : Rd β} {z : α} (h : Sees (fun s => one s z) r) : Sees (fun s => itF (rMd g A n cap bs) one (fun i => ([] : List α).getD i z) (lenR bs s).2 (lenR bs s).1) (rList bs r) := by
  have h0 := see_u64 hb
  refine ⟨fun p y q e => ?_, fun p e => ?_, fun q => ?_⟩
  · unfold rList at e
    cases h1 : rNum bs p with
    | none => rw [Rd.bind_none h1] at e; cases e
    | some v =>
      obtain ⟨m, p1⟩ := v
      rw [Rd.bind_some h1] at e
      split at e
      · cases e
      · rename_i hc
        have hl : lenR bs ((p : Int), false) = (((p1 : Int), false), m) := by
          unfold lenR
          rw [h0.good p m p1 h1, if_neg (fun h => hc (by simpa using h.2))]
        rw [hl]
        exact (see_it h m).good p1 y q e
  · unfold rList at e
    cases h1 : rNum bs p with
    | none =>
      have hu := h0.fail p h1
      have hl : lenR bs ((p : Int), false) = u64R bs ((p : Int), false) := by
        unfold lenR
        rw [if_neg (fun h => by rw [hu] at h; cases h.1)]
      rw [hl, u64R_bad hu]
      exact hu
    | some v =>
      obtain ⟨m, p1⟩ := v
      rw [Rd.bind_some h1] at e
      split at e
      · rename_i hc
        have hl : lenR bs ((p : Int), false) = (((p1 : Int), true), 0) := by
          unfold lenR
          rw [h0.good p m p1 h1, if_pos ⟨rfl, by simpa using hc⟩]
        rw [hl]
        rfl
      · rename_i hc
        have hl : lenR bs ((p : Int), false) = (((p1 : Int), false), m) := by
          unfold lenR
          rw [h0.good p m p1 h1, if_neg (fun h => hc (by simpa using h.2))]
        rw [hl]
        exact (see_it h m).fail p1 e
  · have hu := h0.bad q
    have hl : lenR bs (q, true) = u64R bs (q, true) := by
      unfold lenR
      rw [if_neg (fun h => by rw [hu] at h; cases h.1)]
    rw [hl, u64R_bad hu]
    exact hu
theorem see_ints : Sees (fun s => intsF (rMd g A n cap bs) s []) (rList bs (rInt bs)) := see_list hb (one := fun s _ => intR bs s) (z := (0 : Int)) (see_int hb)
def id0 : IdT := ⟨0, 0, 0⟩
theorem see_id : Sees (fun s => idF (rMd g A n cap bs) s id0) (rId bs) := (see_u64 hb).bind fun _ => (see_int hb).bind fun _ => (see_u64 hb).bind fun _ => Sees.pure _
def hd0 : HdT := ⟨id0, 0, 0, 0, 0⟩
theorem see_conf : Sees (fun s => confF (rMd g A n cap bs) s ([], [])) (rConf bs) := (see_ints hb).bind fun _ => (see_ints hb).bind fun _ => Sees.pure _
theorem see_mem : Sees (fun s => memF (rMd g A n cap bs) s (0, 0)) (rMem bs) := (see_int hb).bind fun _ => (see_int hb).bind fun _ => Sees.pure _
theorem see_mems : Sees (fun s => memsF (rMd g A n cap bs) s []) (rList bs (rMem bs)) := see_list hb (one := memF (rMd g A n cap bs)) (z := ((0 : Int), (0 : Int))) (see_mem hb)
theorem see_map : Sees (fun s => mapF (rMd g A n cap bs) s (0, [])) (rMap bs) := (see_u64 hb).bind fun _ => (see_mems hb).bind fun _ => Sees.pure _
def cmd0 : CmdT := ⟨0, 0, 0, [], 0, 0, 0, 0, 0, 0, false, id0, 0, []⟩
theorem see_cmd : Sees (fun s => cmdF (rMd g A n cap bs) s cmd0) (rCmd bs) :=
  (see_int hb).bind fun _ => (see_u64 hb).bind fun _ => (see_u64 hb).bind fun _ => (see_text hb).bind fun _ => (see_int hb).bind fun _ => (see_u32 hb).bind fun _ => (see_u64 hb).bind fun _ => (see_u64 hb).bind fun _ => (see_int hb).bind fun _ => (see_int hb).bind fun _ => see_flag.bind fun _ => (see_id hb).bind fun _ => (see_map hb).bind fun _ => Sees.pure _
def ent0 : EntT := ⟨0, 0, 0, cmd0, [], []⟩
theorem see_ent : Sees (fun s => entF (rMd g A n cap bs) s ent0) (rEnt bs) := (see_u64 hb).bind fun _ => (see_u64 hb).bind fun _ => (see_int hb).bind fun _ => (see_cmd hb).bind fun _ => (see_conf hb).bind fun _ => Sees.pure _
end
end Go.Proofs.YthgiafjiemiifaaGreat
end
section
namespace Go.Proofs.YthgiafjiemiifaaGreat
open Go.RowKit OctMath
set_option linter.unusedVariables false
theorem pen_free {g k B : Nat} {xs : List Nat} {w : World} (h : Pen (fun k => k < B) g xs w) (hk : k < B) (hB : B ≤ w.heap.size) (hg : B ≤ g) : Free (wMd g) k w := by
  obtain ⟨v, hBk, hO, hne, hh⟩ := h.out
  have h0 : w.cell? ⟨g, 0, none⟩ = some v := hBk.cell 0
  have hn : ¬ (k = g ∨ ∃ u, w.cell? ⟨g, 0, none⟩ = some u ∧ u.ownBlock = some k) := by
    rintro (e | ⟨u, hu, e⟩)
    · omega
    · rw [h0] at hu
      injection hu with hu
      subst hu
      exact hh k hk e
  exact ⟨by omega, hn, hn⟩
theorem stp_below {σ : Type} {M : Md σ} {w w' : World} {B : Nat} (h : Stp M w w') (hB : B ≤ w.heap.size) (hf : ∀ k, k < B → ¬ M.wr w k) : Below B w w' := ⟨h.os, h.tape, h.output, h.size, fun k hk => h.block k (by omega) (hf k hk)⟩
set_option maxRecDepth 100000 in
set_option maxHeartbeats 4000000 in
theorem rput_entry (A : Option Addr) (c : Nat) (B : Option Addr) (d : Nat) (E : Option Addr) (f : Nat) (x : EntT) (w : World) (hK : Hid (Reads w w.heap.size 2 A x.cmd.mem.length (mcells x.cmd.mem))) (hJ : Hid (Reads w w.heap.size 1 B x.voters.length (x.voters.map iv))) (hI : Hid (Reads w w.heap.size 1 E x.learners.length (x.learners.map iv))) (HO : EntOk x) :
    Calls Tryz.prog 24 #[.slice none 0 0, .agg #[.int .u64 (x.index : Int), .int .u64 (x.term : Int), .int .i64 x.kind, .int .i64 x.cmd.kind, .int .u64 (x.cmd.client : Int), .int .u64 (x.cmd.seq : Int), .string (strOf x.cmd.key), .int .i64 x.cmd.size, .int .u32 (x.cmd.sum : Int), .int .u64 (x.cmd.version : Int), .int .u64 (x.cmd.epoch : Int), .int .i64 x.cmd.group, .int .i64 x.cmd.node, .bool x.cmd.up, .int .u64 (x.cmd.id.ver : Int), .int .i64 x.cmd.id.idx, .int .u64 (x.cmd.id.ep : Int), .int .u64 (x.cmd.mep : Int), .slice A x.cmd.mem.length c, .slice B x.voters.length d, .slice E x.learners.length f]] w (RetO (pEnt x) w) := by
  obtain ⟨ys, hys⟩ : ∃ ys, pEnt x = ys := ⟨_, rfl⟩
  have HYS := Lib.hid hys
  rw [hys]
  clear hys
  obtain ⟨w0, ew0⟩ : ∃ w0, w.alloc (.cells #[.int .u64 (x.index : Int), .int .u64 (x.term : Int), .int .i64 x.kind, .int .i64 x.cmd.kind, .int .u64 (x.cmd.client : Int), .int .u64 (x.cmd.seq : Int), .string (strOf x.cmd.key), .int .i64 x.cmd.size, .int .u32 (x.cmd.sum : Int), .int .u64 (x.cmd.version : Int), .int .u64 (x.cmd.epoch : Int), .int .i64 x.cmd.group, .int .i64 x.cmd.node, .bool x.cmd.up, .int .u64 (x.cmd.id.ver : Int), .int .i64 x.cmd.id.idx, .int .u64 (x.cmd.id.ep : Int), .int .u64 (x.cmd.mep : Int), .slice A x.cmd.mem.length c, .slice B x.voters.length d, .slice E x.learners.length f] 38) = w0 := ⟨_, rfl⟩
  have hb : Below w.heap.size w (w.alloc (.cells #[.int .u64 (x.index : Int), .int .u64 (x.term : Int), .int .i64 x.kind, .int .i64 x.cmd.kind, .int .u64 (x.cmd.client : Int), .int .u64 (x.cmd.seq : Int), .string (strOf x.cmd.key), .int .i64 x.cmd.size, .int .u32 (x.cmd.sum : Int), .int .u64 (x.cmd.version : Int), .int .u64 (x.cmd.epoch : Int), .int .i64 x.cmd.group, .int .i64 x.cmd.node, .bool x.cmd.up, .int .u64 (x.cmd.id.ver : Int), .int .i64 x.cmd.id.idx, .int .u64 (x.cmd.id.ep : Int), .int .u64 (x.cmd.mep : Int), .slice A x.cmd.mem.length c, .slice B x.voters.length d, .slice E x.learners.length f] 38)) := (Below.refl _ _).alloc (Nat.le_refl _) _
  have hx : Blk (w.alloc (.cells #[.int .u64 (x.index : Int), .int .u64 (x.term : Int), .int .i64 x.kind, .int .i64 x.cmd.kind, .int .u64 (x.cmd.client : Int), .int .u64 (x.cmd.seq : Int), .string (strOf x.cmd.key), .int .i64 x.cmd.size, .int .u32 (x.cmd.sum : Int), .int .u64 (x.cmd.version : Int), .int .u64 (x.cmd.epoch : Int), .int .i64 x.cmd.group, .int .i64 x.cmd.node, .bool x.cmd.up, .int .u64 (x.cmd.id.ver : Int), .int .i64 x.cmd.id.idx, .int .u64 (x.cmd.id.ep : Int), .int .u64 (x.cmd.mep : Int), .slice A x.cmd.mem.length c, .slice B x.voters.length d, .slice E x.learners.length f] 38)) w.heap.size 38 #[.int .u64 (x.index : Int), .int .u64 (x.term : Int), .int .i64 x.kind, .int .i64 x.cmd.kind, .int .u64 (x.cmd.client : Int), .int .u64 (x.cmd.seq : Int), .string (strOf x.cmd.key), .int .i64 x.cmd.size, .int .u32 (x.cmd.sum : Int), .int .u64 (x.cmd.version : Int), .int .u64 (x.cmd.epoch : Int), .int .i64 x.cmd.group, .int .i64 x.cmd.node, .bool x.cmd.up, .int .u64 (x.cmd.id.ver : Int), .int .i64 x.cmd.id.idx, .int .u64 (x.cmd.id.ep : Int), .int .u64 (x.cmd.mep : Int), .slice A x.cmd.mem.length c, .slice B x.voters.length d, .slice E x.learners.length f] := Blk.new w _ _
  rw [ew0] at hb hx
  have HB0 := Lib.hid hb
  have HX0 := Lib.hid hx
  clear hb hx
  have HPF := Lib.hid (fun (g : Nat) (w1 : World) hS hK1 hJ1 hI1 => pf_entry (wMd g) (wMd_ok g) [] A c B d E f x w1 hS hK1 hJ1 hI1 HO (Lib.hid (fun h => by cases h)) (Lib.hid (fun h => by cases h)) (Lib.hid (fun h => by cases h)) (Lib.hid (by show 0 + 42992040 ≤ 70000000000000; omega)))
  go_enter Tryz.func24, Tryz.ntmps24
  go_wp2_with (first
    | (go_at_call 49; refine (pen_writer none 0 0 [] _ Reads.none_ (by omega)).mono ?_; rintro en w1 ⟨g, rfl, hg, hb, hp⟩
       have HB4 := Lib.hid (HB0.out.trans (hb.mono HB0.out.size))
       have HP1 := Lib.hid (hp.mono (H' := fun k => k < w.heap.size) (fun k hk => .inl (Nat.lt_of_lt_of_le hk HB0.out.size)))
       have HGE := Lib.hid (show w.heap.size ≤ g from Nat.le_trans HB0.out.size hg)
       have HX1 := Lib.hid (HX0.out.below hb HX0.out.lt)
       clear hg hb hp ew0)
    | (refine wpl_load_blk rfl 38 (.tmp 3) rfl w.heap.size 38 _ _ rfl HX1.out Tryz.underlying38 rfl Tryz.sizeE ?_)
    | (go_at_call 22; refine (HPF.out g w1 (Lib.hid (HP1.out.mono (fun _ h => h.elim))) (Lib.hid ⟨hK.out.later HB4.out, fun h0 ad e => pen_free HP1.out (by obtain ⟨ad1, e1, h1, -⟩ := hK.out.2 h0; rw [e] at e1; injection e1 with e1; subst e1; exact h1) HB4.out.size HGE.out⟩) (Lib.hid ⟨hJ.out.later HB4.out, fun h0 ad e => pen_free HP1.out (by obtain ⟨ad1, e1, h1, -⟩ := hJ.out.2 h0; rw [e] at e1; injection e1 with e1; subst e1; exact h1) HB4.out.size HGE.out⟩) (Lib.hid ⟨hI.out.later HB4.out, fun h0 ad e => pen_free HP1.out (by obtain ⟨ad1, e1, h1, -⟩ := hI.out.2 h0; rw [e] at e1; injection e1 with e1; subst e1; exact h1) HB4.out.size HGE.out⟩)).mono ?_; rintro en w2 ⟨A1, c1, A2, c2, A3, c3, rfl, -, -, -, hs, hk⟩
       have hs : Pen (fun _ => False) g (entF (wMd g) [] x).1 w2 := hs
       rw [w_ent, List.nil_append, HYS.out] at hs
       have HK := Lib.hid hk
       obtain ⟨pv, pB, pO, -, -⟩ := hs.out
       obtain ⟨A9, c9, rfl, -, -⟩ := own_slice pO
       have z0 := pB.cell 0
       have HR := Lib.hid (Reads.of_own pO)
       clear hs hk pB pO))
  go_ret
  exact ⟨_, _, rfl, HR.out, HB4.out.trans (stp_below HK.out HB4.out.size (fun k hk => (pen_free HP1.out hk HB4.out.size HGE.out).wr))⟩
end Go.Proofs.YthgiafjiemiifaaGreat
end
