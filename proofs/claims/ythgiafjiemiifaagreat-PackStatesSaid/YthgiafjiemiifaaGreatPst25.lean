/-
  THE REFERENCE'S READERS, exported. (printed by gen_pas4.py). (joined out of PaQ11 by shake.py)
-/
import Derived.Test.YthgiafjiemiifaaGreatPst21
import Derived.Test.YthgiafjiemiifaaGreatPst24
section
namespace Go.Proofs.YthgiafjiemiifaaGreat
open Go.RowKit OctMath
set_option linter.unusedVariables false
set_option linter.unusedSectionVars false
set_option maxRecDepth 100000 in
theorem reader_any (A : Option Addr) (n cap : Nat) (at_ : Int) (w : World) :
    Calls Tryz.prog 21 #[.slice A n cap, .int .i64 at_] w fun e w' => e = .returned (.pointer (some ⟨w.heap.size, 0, none⟩)) ∧ w.alloc (.cells #[.slice A n cap, .int .i64 at_, .bool false, .bool false] 112) = w' := by
  go_enter Tryz.func21, Tryz.ntmps21
  go_wp2
  go_ret
  exact ⟨rfl, rfl⟩
set_option maxRecDepth 100000 in
theorem ended_out (g : Nat) (A : Option Addr) (n cap : Nat) (at_ : Int) (w : World) (h : at_ < 0 ∨ (n : Int) < at_) :
    Calls Tryz.prog 23 #[.pointer (some ⟨g, 0, none⟩), .slice A n cap, .int .i64 at_] w fun e w' => e = .returned (.tuple #[.int .i64 0, .int .i64 2]) ∧ w = w' := by
  by_cases h1 : at_ < 0
  · have d1 : decide (at_ < 0) = true := decide_eq_true h1
    clear h h1
    go_enter Tryz.func23, Tryz.ntmps23
    go_wp2
    go_ret2
    exact ⟨rfl, rfl⟩
  · have d1 : decide (at_ < 0) = false := decide_eq_false h1
    have d2 : decide (at_ > (n : Int)) = true := decide_eq_true (by omega)
    have d3 : decide ((n : Int) < at_) = true := decide_eq_true (by omega)
    clear h h1
    go_enter Tryz.func23, Tryz.ntmps23
    go_wp2
    go_ret2
    exact ⟨rfl, rfl⟩
set_option maxRecDepth 100000 in
theorem ended_in (g : Nat) (A : Option Addr) (n cap : Nat) (bs : List Nat) (s : Int × Bool) (at_ : Int) (w : World) (hP : PF g A n cap bs s w) (h : ¬ (at_ < 0 ∨ (n : Int) < at_)) :
    Calls Tryz.prog 23 #[.pointer (some ⟨g, 0, none⟩), .slice A n cap, .int .i64 at_] w fun e w' => e = .returned (.tuple #[.int .i64 (if s.2 then 0 else s.1), .int .i64 (if s.2 then 50 else 0)]) ∧ w = w' := by
  obtain ⟨p, bad⟩ := s
  have c1 := hP.blk.cell 1
  have c3 := hP.blk.cell 3
  have d1 : decide (at_ < 0) = false := decide_eq_false (by omega)
  have d2 : decide (at_ > (n : Int)) = false := decide_eq_false (by omega)
  have d3 : decide ((n : Int) < at_) = false := decide_eq_false (by omega)
  clear h hP
  cases bad with
  | true =>
    go_enter Tryz.func23, Tryz.ntmps23
    go_wp2
    go_ret2
    exact ⟨rfl, rfl⟩
  | false =>
    go_enter Tryz.func23, Tryz.ntmps23
    go_wp2
    go_ret2
    exact ⟨rfl, rfl⟩
theorem lx_lst {σ : Type} {M : Md σ} {lo size c n : Nat} {A : Option Addr} {xs : List Value} {w w' : World} (h : Lx M lo size A c n xs w) (hl : Ls M size A n xs w') : Lst lo size A c n xs w' := ⟨hl.rd, h.lo, h.kc, h.cm⟩
def uEnt (lo : Nat) (x : EntT) (w : World) (v : Value) : Prop := ∃ A c A1 c1 A2 c2, v = .agg (entCs x A c A1 c1 A2 c2) ∧ Lst lo 2 A c x.cmd.mem.length (mcells x.cmd.mem) w ∧ Lst lo 1 A1 c1 x.voters.length (x.voters.map iv) w ∧ Lst lo 1 A2 c2 x.learners.length (x.learners.map iv) w
theorem hd0_ok : HdOk hd0 := by constructor <;> decide
theorem ints0_ok : IntsOk [] := ⟨fun y h => (List.not_mem_nil h).elim, by decide⟩
theorem cmd0_ok : CmdOk cmd0 := by
  constructor <;> first | decide | exact ⟨fun y h => (List.not_mem_nil h).elim, by decide⟩ | exact ⟨by decide, fun y h => (List.not_mem_nil h).elim, by decide⟩
theorem ent0_ok : EntOk ent0 := by
  constructor <;> first | decide | exact cmd0_ok | exact ⟨fun y h => (List.not_mem_nil h).elim, by decide⟩
def RetA {α : Type} (r : (Int × Bool) × α) (out : Prop) (val : α → World → Value → Prop) (z : Value) (w : World) (e : Ending) (w' : World) : Prop := Below w.heap.size w w' ∧
  (out → e = .returned (.tuple #[z, .int .i64 0, .int .i64 2])) ∧ (¬ out → r.1.2 = true → e = .returned (.tuple #[z, .int .i64 0, .int .i64 50])) ∧ (¬ out → r.1.2 = false → ∃ v, e = .returned (.tuple #[v, .int .i64 r.1.1, .int .i64 0]) ∧ val r.2 w' v)
theorem retA_in {α : Type} {F : RS_ → RS_ × α} {r : Rd α} (h : Sees F r) {p n : Nat} (hp : p ≤ n) {val : α → World → Value → Prop} {z : Value} {w w' : World} {e : Ending} (ha : RetA (F ((p : Int), false)) ((p : Int) < 0 ∨ (n : Int) < (p : Int)) val z w e w') : RetG (r p) val z w e w' := by
  obtain ⟨h1, h2, h3, h4⟩ := ha
  have hn : ¬ ((p : Int) < 0 ∨ (n : Int) < (p : Int)) := by omega
  refine ⟨h1, ?_⟩
  cases hr : r p with
  | none => exact h3 hn (h.fail p hr)
  | some x =>
    obtain ⟨y, q⟩ := x
    have hg := h.good p y q hr
    rw [hg] at h4
    exact h4 hn rfl
set_option maxRecDepth 100000 in
set_option maxHeartbeats 4000000 in
theorem rxa_entry (O : Option Addr) (on oc : Nat) (bs : List Nat) (at_ : Int) (w : World) (HI : Hid (InB w O on oc bs)) :
    Calls Tryz.prog 6 #[.slice O on oc, .int .i64 at_] w (RetA (entF (rMd (w.heap.size + 1) O on oc bs) (at_, false) ent0) (at_ < 0 ∨ (on : Int) < at_) (uEnt w.heap.size) (.agg #[.int .u64 0, .int .u64 0, .int .i64 0, .int .i64 0, .int .u64 0, .int .u64 0, .string ⟨#[]⟩, .int .i64 0, .int .u32 0, .int .u64 0, .int .u64 0, .int .i64 0, .int .i64 0, .bool false, .int .u64 0, .int .i64 0, .int .u64 0, .int .u64 0, .slice none 0 0, .slice none 0 0, .slice none 0 0]) w) := by
  obtain ⟨g, hg⟩ : ∃ g, w.heap.size + 1 = g := ⟨_, rfl⟩
  have HG := Lib.hid hg
  have HOV := Lib.hid (⟨HI.out.byt, HI.out.len, HI.out.le, HI.out.mx, HI.out.reach⟩ : Ov on oc bs)
  rw [hg]
  clear hg
  have HC0 : Hid (∀ w1, Hid (PF g O on oc bs (at_, false) w1) → Calls Tryz.prog 22 #[.pointer (some ⟨g, 0, none⟩), .agg #[.int .u64 0, .int .u64 0, .int .i64 0, .int .i64 0, .int .u64 0, .int .u64 0, .string ⟨#[]⟩, .int .i64 0, .int .u32 0, .int .u64 0, .int .u64 0, .int .i64 0, .int .i64 0, .bool false, .int .u64 0, .int .i64 0, .int .u64 0, .int .u64 0, .slice none 0 0, .slice none 0 0, .slice none 0 0]] w1 (RetEn (rMd g O on oc bs) (entF (rMd g O on oc bs) (at_, false) ent0).1 (entF (rMd g O on oc bs) (at_, false) ent0).2 w1)) := Lib.hid (fun w1 hS => pf_entry (rMd g O on oc bs) (rMd_ok g O on oc bs HOV.out) (at_, false) none 0 none 0 none 0 ent0 w1 hS (Lib.hid ⟨Reads.none_, fun h => absurd h (by decide)⟩) (Lib.hid ⟨Reads.none_, fun h => absurd h (by decide)⟩) (Lib.hid ⟨Reads.none_, fun h => absurd h (by decide)⟩) ent0_ok (Lib.hid (fun _ => rfl)) (Lib.hid (fun _ => rfl)) (Lib.hid (fun _ => rfl)) (Lib.hid trivial))
  generalize entF (rMd g O on oc bs) (at_, false) ent0 = r at *
  obtain ⟨s2, y⟩ := r
  simp only at HC0
  obtain ⟨w0, ew0⟩ : ∃ w0, w.alloc (.cells #[.int .u64 0, .int .u64 0, .int .i64 0, .int .i64 0, .int .u64 0, .int .u64 0, .string ⟨#[]⟩, .int .i64 0, .int .u32 0, .int .u64 0, .int .u64 0, .int .i64 0, .int .i64 0, .bool false, .int .u64 0, .int .i64 0, .int .u64 0, .int .u64 0, .slice none 0 0, .slice none 0 0, .slice none 0 0] 38) = w0 := ⟨_, rfl⟩
  have hb : Below w.heap.size w (w.alloc (.cells #[.int .u64 0, .int .u64 0, .int .i64 0, .int .i64 0, .int .u64 0, .int .u64 0, .string ⟨#[]⟩, .int .i64 0, .int .u32 0, .int .u64 0, .int .u64 0, .int .i64 0, .int .i64 0, .bool false, .int .u64 0, .int .i64 0, .int .u64 0, .int .u64 0, .slice none 0 0, .slice none 0 0, .slice none 0 0] 38)) := (Below.refl _ _).alloc (Nat.le_refl _) _
  have hx : Blk (w.alloc (.cells #[.int .u64 0, .int .u64 0, .int .i64 0, .int .i64 0, .int .u64 0, .int .u64 0, .string ⟨#[]⟩, .int .i64 0, .int .u32 0, .int .u64 0, .int .u64 0, .int .i64 0, .int .i64 0, .bool false, .int .u64 0, .int .i64 0, .int .u64 0, .int .u64 0, .slice none 0 0, .slice none 0 0, .slice none 0 0] 38)) w.heap.size 38 #[.int .u64 0, .int .u64 0, .int .i64 0, .int .i64 0, .int .u64 0, .int .u64 0, .string ⟨#[]⟩, .int .i64 0, .int .u32 0, .int .u64 0, .int .u64 0, .int .i64 0, .int .i64 0, .bool false, .int .u64 0, .int .i64 0, .int .u64 0, .int .u64 0, .slice none 0 0, .slice none 0 0, .slice none 0 0] := Blk.new w _ _
  have hsz : (w.alloc (.cells #[.int .u64 0, .int .u64 0, .int .i64 0, .int .i64 0, .int .u64 0, .int .u64 0, .string ⟨#[]⟩, .int .i64 0, .int .u32 0, .int .u64 0, .int .u64 0, .int .i64 0, .int .i64 0, .bool false, .int .u64 0, .int .i64 0, .int .u64 0, .int .u64 0, .slice none 0 0, .slice none 0 0, .slice none 0 0] 38)).heap.size = w.heap.size + 1 := by simp
  rw [ew0] at hb hx hsz
  have HB0 := Lib.hid hb
  have HX0 := Lib.hid hx
  have HS0 := Lib.hid hsz
  clear hb hx hsz
  go_enter Tryz.func6, Tryz.ntmps6
  go_wp2_with fail
  clear ew0
  refine (reader_any O on oc at_ w0).mono ?_
  rintro e w1 ⟨rfl, ew1⟩
  have hb1 : Below w0.heap.size w0 w1 := by rw [← ew1]; exact (Below.refl _ _).alloc (Nat.le_refl _) _
  have hPB : Blk w1 w0.heap.size 112 #[.slice O on oc, .int .i64 at_, .bool false, .bool false] := by rw [← ew1]; exact Blk.new w0 _ _
  have hg : w0.heap.size = g := by have := HS0.out; have := HG.out; omega
  have HX := Lib.hid (HX0.out.below hb1 HX0.out.lt)
  have HB := Lib.hid (HB0.out.trans (hb1.mono HB0.out.size))
  rw [hg] at hPB ⊢
  have HPF := Lib.hid (show PF g O on oc bs (at_, false) w1 from ⟨hPB, HI.out.rd.later HB.out, fun h0 ad e => by obtain ⟨ad1, e1, h1, -⟩ := HI.out.rd.2 h0; rw [e] at e1; injection e1 with e1; subst e1; have := HG.out; show _ ≠ g; omega⟩)
  clear hb1 hPB ew1 hg
  go_wp2_with fail
  have HC := Lib.hid (HC0.out w1 HPF)
  refine HC.out.mono ?_
  rintro e w2 ⟨A1, c1, A2, c2, A3, c3, rfl, l1, l2, l3, hs, hk⟩
  clear HC
  unfold entCs
  have hk2 : Keep (Not g) w1 w2 := ⟨hk.os, hk.tape, hk.output, hk.size, fun k hk1 hl => hk.block k hl hk1⟩
  have HX := Lib.hid (hk2.blk HX.out (by show _ ≠ g; have := HG.out; omega))
  have HLO := Lib.hid (show w.heap.size + 1 < w1.heap.size from by have := HPF.out.blk.lt; have := HG.out; omega)
  have HB := Lib.hid (HB.out.trans (hk2.toBelow HB.out.size (fun k hk => by show k ≠ g; have := HG.out; omega)))
  have HM := Lib.hid (rMd_ok g O on oc bs HOV.out)
  have hwk := (Wk.start hs).alloc HM.out (.cells #[.int .u64 0, .int .u64 0, .int .i64 0, .int .i64 0, .int .u64 0, .int .u64 0, .string ⟨#[]⟩, .int .i64 0, .int .u32 0, .int .u64 0, .int .u64 0, .int .i64 0, .int .i64 0, .bool false, .int .u64 0, .int .i64 0, .int .u64 0, .int .u64 0, .slice none 0 0, .slice none 0 0, .slice none 0 0] 38)
  have hbk := Bk.new HM.out (Wk.start hs) #[.int .u64 0, .int .u64 0, .int .i64 0, .int .i64 0, .int .u64 0, .int .u64 0, .string ⟨#[]⟩, .int .i64 0, .int .u32 0, .int .u64 0, .int .u64 0, .int .i64 0, .int .i64 0, .bool false, .int .u64 0, .int .i64 0, .int .u64 0, .int .u64 0, .slice none 0 0, .slice none 0 0, .slice none 0 0] 38
  have l1a := (l1.ls.alloc HM.out hs (.cells #[.int .u64 0, .int .u64 0, .int .i64 0, .int .i64 0, .int .u64 0, .int .u64 0, .string ⟨#[]⟩, .int .i64 0, .int .u32 0, .int .u64 0, .int .u64 0, .int .i64 0, .int .i64 0, .bool false, .int .u64 0, .int .i64 0, .int .u64 0, .int .u64 0, .slice none 0 0, .slice none 0 0, .slice none 0 0] 38)); have l1p := l1.ls.apart (Nat.le_refl _)
  have l2a := (l2.ls.alloc HM.out hs (.cells #[.int .u64 0, .int .u64 0, .int .i64 0, .int .i64 0, .int .u64 0, .int .u64 0, .string ⟨#[]⟩, .int .i64 0, .int .u32 0, .int .u64 0, .int .u64 0, .int .i64 0, .int .i64 0, .bool false, .int .u64 0, .int .i64 0, .int .u64 0, .int .u64 0, .slice none 0 0, .slice none 0 0, .slice none 0 0] 38)); have l2p := l2.ls.apart (Nat.le_refl _)
  have l3a := (l3.ls.alloc HM.out hs (.cells #[.int .u64 0, .int .u64 0, .int .i64 0, .int .i64 0, .int .u64 0, .int .u64 0, .string ⟨#[]⟩, .int .i64 0, .int .u32 0, .int .u64 0, .int .u64 0, .int .i64 0, .int .i64 0, .bool false, .int .u64 0, .int .i64 0, .int .u64 0, .int .u64 0, .slice none 0 0, .slice none 0 0, .slice none 0 0] 38)); have l3p := l3.ls.apart (Nat.le_refl _)
  have HWK := Lib.hid hwk
  have HBK := Lib.hid hbk
  have Hl1 := Lib.hid l1; have Hl1a := Lib.hid l1a; have Hl1p := Lib.hid l1p
  have Hl2 := Lib.hid l2; have Hl2a := Lib.hid l2a; have Hl2p := Lib.hid l2p
  have Hl3 := Lib.hid l3; have Hl3a := Lib.hid l3a; have Hl3p := Lib.hid l3p
  clear hwk hbk hk hk2 hs l1 l1a l1p l2 l2a l2p l3 l3a l3p
  go_wp2_with (refine wpl_store_blk rfl 38 (.tmp 8) (.tmp 16) rfl w2.heap.size 38 #[.int .u64 0, .int .u64 0, .int .i64 0, .int .i64 0, .int .u64 0, .int .u64 0, .string ⟨#[]⟩, .int .i64 0, .int .u32 0, .int .u64 0, .int .u64 0, .int .i64 0, .int .i64 0, .bool false, .int .u64 0, .int .i64 0, .int .u64 0, .int .u64 0, .slice none 0 0, .slice none 0 0, .slice none 0 0] #[.int .u64 (y.index : Int), .int .u64 (y.term : Int), .int .i64 y.kind, .int .i64 y.cmd.kind, .int .u64 (y.cmd.client : Int), .int .u64 (y.cmd.seq : Int), .string (strOf y.cmd.key), .int .i64 y.cmd.size, .int .u32 (y.cmd.sum : Int), .int .u64 (y.cmd.version : Int), .int .u64 (y.cmd.epoch : Int), .int .i64 y.cmd.group, .int .i64 y.cmd.node, .bool y.cmd.up, .int .u64 (y.cmd.id.ver : Int), .int .i64 y.cmd.id.idx, .int .u64 (y.cmd.id.ep : Int), .int .u64 (y.cmd.mep : Int), .slice A1 y.cmd.mem.length c1, .slice A2 y.voters.length c2, .slice A3 y.learners.length c3] rfl rfl HBK.out.blk rfl Tryz.sizeE rfl ?_; intro w3 hB3 hO3)
  have HP3 := Lib.hid (HWK.out.only HM.out HBK.out hO3.out).st
  have hne : w.heap.size ≠ w2.heap.size := by have := HB.out.size; have := HX.out.lt; omega
  have HX := Lib.hid (hO3.out.blk (HX.out.alloc _) hne)
  have HB := Lib.hid ((HB.out.alloc HB.out.size (.cells #[.int .u64 0, .int .u64 0, .int .i64 0, .int .i64 0, .int .u64 0, .int .u64 0, .string ⟨#[]⟩, .int .i64 0, .int .u32 0, .int .u64 0, .int .u64 0, .int .i64 0, .int .i64 0, .bool false, .int .u64 0, .int .i64 0, .int .u64 0, .int .u64 0, .slice none 0 0, .slice none 0 0, .slice none 0 0] 38)).trans ((hO3.out.below (Nat.le_refl _)).mono HB.out.size))
  have Ll1 := Lib.hid ((lx_lst Hl1.out (Hl1a.out.only HM.out HWK.out.st hO3.out HBK.out.free Hl1p.out)))
  have Ll2 := Lib.hid ((lx_lst Hl2.out (Hl2a.out.only HM.out HWK.out.st hO3.out HBK.out.free Hl2p.out)))
  have Ll3 := Lib.hid ((lx_lst Hl3.out (Hl3a.out.only HM.out HWK.out.st hO3.out HBK.out.free Hl3p.out)))
  clear hne
  by_cases hout : at_ < 0 ∨ (on : Int) < at_
  · refine (ended_out g O on oc at_ w3 hout).mono ?_
    rintro e w4 ⟨rfl, rfl⟩
    have HOUT := Lib.hid hout
    clear hout
    go_wp2_with (refine wpl_store_blk rfl 38 (.tmp 4) (.tmp 26) rfl w.heap.size 38 #[.int .u64 0, .int .u64 0, .int .i64 0, .int .i64 0, .int .u64 0, .int .u64 0, .string ⟨#[]⟩, .int .i64 0, .int .u32 0, .int .u64 0, .int .u64 0, .int .i64 0, .int .i64 0, .bool false, .int .u64 0, .int .i64 0, .int .u64 0, .int .u64 0, .slice none 0 0, .slice none 0 0, .slice none 0 0] #[.int .u64 0, .int .u64 0, .int .i64 0, .int .i64 0, .int .u64 0, .int .u64 0, .string ⟨#[]⟩, .int .i64 0, .int .u32 0, .int .u64 0, .int .u64 0, .int .i64 0, .int .i64 0, .bool false, .int .u64 0, .int .i64 0, .int .u64 0, .int .u64 0, .slice none 0 0, .slice none 0 0, .slice none 0 0] rfl rfl HX.out rfl Tryz.sizeE rfl ?_; intro w5 hB5 hO5)
    refine bodyPost_ret (v := .tuple #[.agg #[.int .u64 0, .int .u64 0, .int .i64 0, .int .i64 0, .int .u64 0, .int .u64 0, .string ⟨#[]⟩, .int .i64 0, .int .u32 0, .int .u64 0, .int .u64 0, .int .i64 0, .int .i64 0, .bool false, .int .u64 0, .int .i64 0, .int .u64 0, .int .u64 0, .slice none 0 0, .slice none 0 0, .slice none 0 0], .int .i64 0, .int .i64 2]) (res_ctt Tryz.results6 rfl rfl rfl (load_blk hB5.out Tryz.underlying38 rfl Tryz.sizeE)) rfl ?_
    have HB := HB.out.trans (hO5.out.below (Nat.le_refl _))
    exact ⟨HB, fun _ => rfl, fun h => absurd HOUT.out h, fun h => absurd HOUT.out h⟩
  · refine (ended_in g O on oc bs s2 at_ w3 HP3.out hout).mono ?_
    have HOUT := Lib.hid hout
    clear hout
    obtain ⟨p2, bad⟩ := s2
    cases bad with
    | true =>
      rintro e w4 ⟨rfl, rfl⟩
      go_wp2_with (refine wpl_store_blk rfl 38 (.tmp 4) (.tmp 26) rfl w.heap.size 38 #[.int .u64 0, .int .u64 0, .int .i64 0, .int .i64 0, .int .u64 0, .int .u64 0, .string ⟨#[]⟩, .int .i64 0, .int .u32 0, .int .u64 0, .int .u64 0, .int .i64 0, .int .i64 0, .bool false, .int .u64 0, .int .i64 0, .int .u64 0, .int .u64 0, .slice none 0 0, .slice none 0 0, .slice none 0 0] #[.int .u64 0, .int .u64 0, .int .i64 0, .int .i64 0, .int .u64 0, .int .u64 0, .string ⟨#[]⟩, .int .i64 0, .int .u32 0, .int .u64 0, .int .u64 0, .int .i64 0, .int .i64 0, .bool false, .int .u64 0, .int .i64 0, .int .u64 0, .int .u64 0, .slice none 0 0, .slice none 0 0, .slice none 0 0] rfl rfl HX.out rfl Tryz.sizeE rfl ?_; intro w5 hB5 hO5)
      refine bodyPost_ret (v := .tuple #[.agg #[.int .u64 0, .int .u64 0, .int .i64 0, .int .i64 0, .int .u64 0, .int .u64 0, .string ⟨#[]⟩, .int .i64 0, .int .u32 0, .int .u64 0, .int .u64 0, .int .i64 0, .int .i64 0, .bool false, .int .u64 0, .int .i64 0, .int .u64 0, .int .u64 0, .slice none 0 0, .slice none 0 0, .slice none 0 0], .int .i64 0, .int .i64 50]) (res_ctt Tryz.results6 rfl rfl rfl (load_blk hB5.out Tryz.underlying38 rfl Tryz.sizeE)) rfl ?_
      have HB := HB.out.trans (hO5.out.below (Nat.le_refl _))
      exact ⟨HB, fun h => absurd h HOUT.out, fun _ _ => rfl, fun _ h => absurd (Eq.symm h) Bool.false_ne_true⟩
    | false =>
      rintro e w4 ⟨rfl, rfl⟩
      go_wp2_with (first | (refine wpl_load_blk rfl 38 (.tmp 8) rfl w2.heap.size 38 _ _ rfl hB3.out Tryz.underlying38 rfl Tryz.sizeE ?_) | (refine wpl_store_blk rfl 38 (.tmp 4) (.tmp 28) rfl w.heap.size 38 #[.int .u64 0, .int .u64 0, .int .i64 0, .int .i64 0, .int .u64 0, .int .u64 0, .string ⟨#[]⟩, .int .i64 0, .int .u32 0, .int .u64 0, .int .u64 0, .int .i64 0, .int .i64 0, .bool false, .int .u64 0, .int .i64 0, .int .u64 0, .int .u64 0, .slice none 0 0, .slice none 0 0, .slice none 0 0] #[.int .u64 (y.index : Int), .int .u64 (y.term : Int), .int .i64 y.kind, .int .i64 y.cmd.kind, .int .u64 (y.cmd.client : Int), .int .u64 (y.cmd.seq : Int), .string (strOf y.cmd.key), .int .i64 y.cmd.size, .int .u32 (y.cmd.sum : Int), .int .u64 (y.cmd.version : Int), .int .u64 (y.cmd.epoch : Int), .int .i64 y.cmd.group, .int .i64 y.cmd.node, .bool y.cmd.up, .int .u64 (y.cmd.id.ver : Int), .int .i64 y.cmd.id.idx, .int .u64 (y.cmd.id.ep : Int), .int .u64 (y.cmd.mep : Int), .slice A1 y.cmd.mem.length c1, .slice A2 y.voters.length c2, .slice A3 y.learners.length c3] rfl rfl HX.out rfl Tryz.sizeE rfl ?_; intro w5 hB5 hO5))
      refine bodyPost_ret (v := .tuple #[.agg #[.int .u64 (y.index : Int), .int .u64 (y.term : Int), .int .i64 y.kind, .int .i64 y.cmd.kind, .int .u64 (y.cmd.client : Int), .int .u64 (y.cmd.seq : Int), .string (strOf y.cmd.key), .int .i64 y.cmd.size, .int .u32 (y.cmd.sum : Int), .int .u64 (y.cmd.version : Int), .int .u64 (y.cmd.epoch : Int), .int .i64 y.cmd.group, .int .i64 y.cmd.node, .bool y.cmd.up, .int .u64 (y.cmd.id.ver : Int), .int .i64 y.cmd.id.idx, .int .u64 (y.cmd.id.ep : Int), .int .u64 (y.cmd.mep : Int), .slice A1 y.cmd.mem.length c1, .slice A2 y.voters.length c2, .slice A3 y.learners.length c3], .int .i64 p2, .int .i64 0]) (res_ctt Tryz.results6 rfl rfl rfl (load_blk hB5.out Tryz.underlying38 rfl Tryz.sizeE)) rfl ?_
      have HB := HB.out.trans (hO5.out.below (Nat.le_refl _))
      have Ml1 := (Ll1.out.only hO5.out (Ll1.out.apart_lo (by have := HLO.out; omega))).mono (lo' := w.heap.size) (by have := HLO.out; omega)
      have Ml2 := (Ll2.out.only hO5.out (Ll2.out.apart_lo (by have := HLO.out; omega))).mono (lo' := w.heap.size) (by have := HLO.out; omega)
      have Ml3 := (Ll3.out.only hO5.out (Ll3.out.apart_lo (by have := HLO.out; omega))).mono (lo' := w.heap.size) (by have := HLO.out; omega)
      exact ⟨HB, fun h => absurd h HOUT.out, fun _ h => absurd h Bool.false_ne_true, fun _ _ => ⟨_, rfl, ⟨A1, c1, A2, c2, A3, c3, rfl, Ml1, Ml2, Ml3⟩⟩⟩
theorem rx_entry (O : Option Addr) (on oc : Nat) (bs : List Nat) (p : Nat) (w : World) (HI : Hid (InB w O on oc bs)) (hp : p ≤ on) :
    Calls Tryz.prog 6 #[.slice O on oc, .int .i64 (p : Int)] w (RetG (rEnt bs p) (uEnt w.heap.size) (.agg #[.int .u64 0, .int .u64 0, .int .i64 0, .int .i64 0, .int .u64 0, .int .u64 0, .string ⟨#[]⟩, .int .i64 0, .int .u32 0, .int .u64 0, .int .u64 0, .int .i64 0, .int .i64 0, .bool false, .int .u64 0, .int .i64 0, .int .u64 0, .int .u64 0, .slice none 0 0, .slice none 0 0, .slice none 0 0]) w) :=
  (rxa_entry O on oc bs p w HI).mono fun e w1 h => retA_in (see_ent (g := w.heap.size + 1) (A := O) (n := on) (cap := oc) HI.out.byt) hp h
theorem rx_entry_bad (O : Option Addr) (on oc : Nat) (bs : List Nat) (at_ : Int) (w : World) (HI : Hid (InB w O on oc bs)) (h : at_ < 0 ∨ (on : Int) < at_) :
    Calls Tryz.prog 6 #[.slice O on oc, .int .i64 at_] w fun e w' => e = .returned (.tuple #[.agg #[.int .u64 0, .int .u64 0, .int .i64 0, .int .i64 0, .int .u64 0, .int .u64 0, .string ⟨#[]⟩, .int .i64 0, .int .u32 0, .int .u64 0, .int .u64 0, .int .i64 0, .int .i64 0, .bool false, .int .u64 0, .int .i64 0, .int .u64 0, .int .u64 0, .slice none 0 0, .slice none 0 0, .slice none 0 0], .int .i64 0, .int .i64 2]) ∧ Below w.heap.size w w' :=
  (rxa_entry O on oc bs at_ w HI).mono fun e w1 ha => ⟨ha.2.1 h, ha.1⟩
end Go.Proofs.YthgiafjiemiifaaGreat
end
