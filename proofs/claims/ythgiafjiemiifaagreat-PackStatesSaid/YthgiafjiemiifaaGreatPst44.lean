/-
  THE REFERENCE'S READER of states, exported. (printed by gen_pameta.py); WHAT BOTH READERS of states answer at any place. (printed by gen_pameta.py); More words for rows of bytes: a part of a row. (joined out of PaQ21, PaL3, Lib2 by shake.py)
-/
import Derived.Test.YthgiafjiemiifaaGreatPst39
import Derived.Test.YthgiafjiemiifaaGreatPst25
import Derived.Test.YthgiafjiemiifaaGreatPst43
import Derived.Test.YthgiafjiemiifaaGreatPst42
import Derived.Test.YthgiafjiemiifaaGreatPst27
import Derived.Test.YthgiafjiemiifaaGreatPst01
section
namespace Go.Proofs.YthgiafjiemiifaaGreat
open Go.RowKit OctMath
set_option linter.unusedVariables false
set_option linter.unusedSimpArgs false
structure MetL {σ : Type} (M : Md σ) (m : MM) (w : World) : Prop where
  map : Ls M 2 m.MA m.x.mem.length (mcells m.x.mem) w
  next : Ls M 2 m.NA m.x.nem.length (mcells m.x.nem) w
  cut : Ls M 1 m.CA m.x.cut.length (m.x.cut.map iv) w
  objs : Ls M 7 m.OA m.os.length (m.os.flatMap omCs) w
  ints : Ls M 9 m.IA m.is.length (m.is.flatMap imCs) w
  sess : Ls M 5 m.SA m.x.sess.length (m.x.sess.flatMap sesL) w
  wass : Ls M 4 m.WA m.x.wass.length (m.x.wass.flatMap wasL) w
  down : Ls M 1 m.DA m.x.down.length (m.x.down.map iv) w
  oss : ∀ r ∈ m.os.map OM.row, Ls M 1 r.1 r.2.2.length (r.2.2.map iv) w
  iss : ∀ r ∈ m.is.map IM.row, Ls M 1 r.1 r.2.2.length (r.2.2.map iv) w
section
variable {σ : Type} {M : Md σ} {lo b : Nat} {m : MM} {s : σ} {w w' : World}
theorem MetX.ls (h : MetX M lo m w) : MetL M m w := ⟨h.map.ls, h.next.ls, h.cut.ls, h.objs.ls, h.ints.ls, h.sess.ls, h.wass.ls, h.down.ls, fun r hr => (h.oss.all r hr).ls, fun r hr => (h.iss.all r hr).ls⟩
theorem MetL.alloc (hM : MdOk M) (h : MetL M m w) (hs : M.St s w) (o : Obj) : MetL M m (w.alloc o) := ⟨h.map.alloc hM hs o, h.next.alloc hM hs o, h.cut.alloc hM hs o, h.objs.alloc hM hs o, h.ints.alloc hM hs o, h.sess.alloc hM hs o, h.wass.alloc hM hs o, h.down.alloc hM hs o, fun r hr => (h.oss r hr).alloc hM hs o, fun r hr => (h.iss r hr).alloc hM hs o⟩
theorem MetL.apart (h : MetL M m w) (hb : w.heap.size ≤ b) : ApM b m := ⟨h.map.apart hb, h.next.apart hb, h.cut.apart hb, h.objs.apart hb, h.ints.apart hb, h.sess.apart hb, h.wass.apart hb, h.down.apart hb, fun r hr => (h.oss r hr).apart hb, fun r hr => (h.iss r hr).apart hb⟩
theorem MetL.only (hM : MdOk M) (h : MetL M m w) (hs : M.St s w) (ho : Only b w w') (hf : Free M b w) (ha : ApM b m) : MetL M m w' := ⟨h.map.only hM hs ho hf ha.map, h.next.only hM hs ho hf ha.next, h.cut.only hM hs ho hf ha.cut, h.objs.only hM hs ho hf ha.objs, h.ints.only hM hs ho hf ha.ints, h.sess.only hM hs ho hf ha.sess, h.wass.only hM hs ho hf ha.wass, h.down.only hM hs ho hf ha.down, fun r hr => (h.oss r hr).only hM hs ho hf (ha.oss r hr), fun r hr => (h.iss r hr).only hM hs ho hf (ha.iss r hr)⟩
theorem metx_in (h : MetX M lo m w) (hl : MetL M m w') : MetIn lo m w' := ⟨lx_lst h.map hl.map, lx_lst h.next hl.next, lx_lst h.cut hl.cut, lx_lst h.objs hl.objs, lx_lst h.ints hl.ints, lx_lst h.sess hl.sess, lx_lst h.wass hl.wass, lx_lst h.down hl.down, h.os, h.is, ⟨fun r hr => lx_lst (h.oss.all r hr) (hl.oss r hr)⟩, ⟨fun r hr => lx_lst (h.iss.all r hr) (hl.iss r hr)⟩⟩
end
def uMet (lo : Nat) (x : MetT) (w : World) (v : Value) : Prop := ∃ m : MM, m.x = x ∧ v = .agg m.cs ∧ MetIn lo m w
set_option maxRecDepth 100000 in
set_option maxHeartbeats 4000000 in
theorem rxa_meta (O : Option Addr) (on oc : Nat) (bs : List Nat) (at_ : Int) (w : World) (HI : Hid (InB w O on oc bs)) :
    Calls Tryz.prog 11 #[.slice O on oc, .int .i64 at_] w (RetA (metF (rMd (w.heap.size + 1) O on oc bs) (at_, false) met0) (at_ < 0 ∨ (on : Int) < at_) (uMet w.heap.size) (.agg #[.int .i64 0, .int .i64 0, .int .i64 0, .int .u64 0, .slice none 0 0, .int .u64 0, .slice none 0 0, .slice none 0 0, .slice none 0 0, .slice none 0 0, .slice none 0 0, .slice none 0 0, .slice none 0 0, .int .u64 0]) w) := by
  obtain ⟨g, hg⟩ : ∃ g, w.heap.size + 1 = g := ⟨_, rfl⟩
  have HG := Lib.hid hg
  have HOV := Lib.hid (⟨HI.out.byt, HI.out.len, HI.out.le, HI.out.mx, HI.out.reach⟩ : Ov on oc bs)
  rw [hg]
  clear hg
  have HC0 : Hid (∀ w1, Hid (PF g O on oc bs (at_, false) w1) → Calls Tryz.prog 29 #[.pointer (some ⟨g, 0, none⟩), .agg #[.int .i64 0, .int .i64 0, .int .i64 0, .int .u64 0, .slice none 0 0, .int .u64 0, .slice none 0 0, .slice none 0 0, .slice none 0 0, .slice none 0 0, .slice none 0 0, .slice none 0 0, .slice none 0 0, .int .u64 0]] w1 (RetMt (rMd g O on oc bs) (metF (rMd g O on oc bs) (at_, false) met0).1 (metF (rMd g O on oc bs) (at_, false) met0).2 w1)) := Lib.hid (fun w1 hS => pf_meta (rMd g O on oc bs) (rMd_ok g O on oc bs HOV.out) (at_, false) none 0 none 0 none 0 none 0 none 0 none 0 none 0 none 0 [] [] met0 w1 hS (Lib.hid ⟨Reads.none_, fun h => absurd h (by decide)⟩) (Lib.hid ⟨Reads.none_, fun h => absurd h (by decide)⟩) (Lib.hid ⟨Reads.none_, fun h => absurd h (by decide)⟩) (Lib.hid ⟨Reads.none_, fun h => absurd h (by decide)⟩) (Lib.hid ⟨Reads.none_, fun h => absurd h (by decide)⟩) (Lib.hid ⟨Reads.none_, fun h => absurd h (by decide)⟩) (Lib.hid ⟨Reads.none_, fun h => absurd h (by decide)⟩) (Lib.hid ⟨Reads.none_, fun h => absurd h (by decide)⟩) (Lib.hid ⟨fun r hr => (List.not_mem_nil hr).elim⟩) (Lib.hid ⟨fun r hr => (List.not_mem_nil hr).elim⟩) (Lib.hid rfl) (Lib.hid rfl) met0_ok (Lib.hid (fun _ => rfl)) (Lib.hid (fun _ => rfl)) (Lib.hid (fun _ => rfl)) (Lib.hid (fun _ => rfl)) (Lib.hid (fun _ => rfl)) (Lib.hid (fun _ => rfl)) (Lib.hid (fun _ => rfl)) (Lib.hid (fun _ => rfl)) (Lib.hid trivial))
  generalize metF (rMd g O on oc bs) (at_, false) met0 = r at *
  obtain ⟨s2, y⟩ := r
  simp only at HC0
  obtain ⟨w0, ew0⟩ : ∃ w0, w.alloc (.cells #[.int .i64 0, .int .i64 0, .int .i64 0, .int .u64 0, .slice none 0 0, .int .u64 0, .slice none 0 0, .slice none 0 0, .slice none 0 0, .slice none 0 0, .slice none 0 0, .slice none 0 0, .slice none 0 0, .int .u64 0] 53) = w0 := ⟨_, rfl⟩
  have hb : Below w.heap.size w (w.alloc (.cells #[.int .i64 0, .int .i64 0, .int .i64 0, .int .u64 0, .slice none 0 0, .int .u64 0, .slice none 0 0, .slice none 0 0, .slice none 0 0, .slice none 0 0, .slice none 0 0, .slice none 0 0, .slice none 0 0, .int .u64 0] 53)) := (Below.refl _ _).alloc (Nat.le_refl _) _
  have hx : Blk (w.alloc (.cells #[.int .i64 0, .int .i64 0, .int .i64 0, .int .u64 0, .slice none 0 0, .int .u64 0, .slice none 0 0, .slice none 0 0, .slice none 0 0, .slice none 0 0, .slice none 0 0, .slice none 0 0, .slice none 0 0, .int .u64 0] 53)) w.heap.size 53 #[.int .i64 0, .int .i64 0, .int .i64 0, .int .u64 0, .slice none 0 0, .int .u64 0, .slice none 0 0, .slice none 0 0, .slice none 0 0, .slice none 0 0, .slice none 0 0, .slice none 0 0, .slice none 0 0, .int .u64 0] := Blk.new w _ _
  have hsz : (w.alloc (.cells #[.int .i64 0, .int .i64 0, .int .i64 0, .int .u64 0, .slice none 0 0, .int .u64 0, .slice none 0 0, .slice none 0 0, .slice none 0 0, .slice none 0 0, .slice none 0 0, .slice none 0 0, .slice none 0 0, .int .u64 0] 53)).heap.size = w.heap.size + 1 := by simp
  rw [ew0] at hb hx hsz
  have HB0 := Lib.hid hb
  have HX0 := Lib.hid hx
  have HS0 := Lib.hid hsz
  clear hb hx hsz
  go_enter Tryz.func11, Tryz.ntmps11
  go_wp2_with fail
  clear ew0
  refine (reader_any O on oc at_ w0).mono ?_
  rintro e w1 ⟨rfl, ew1⟩
  have hb1 : Below w0.heap.size w0 w1 := by rw [← ew1]; exact (Below.refl _ _).alloc (Nat.le_refl _) _
  have hPB : Blk w1 w0.heap.size 112 #[.slice O on oc, .int .i64 at_, .bool false, .bool false] := by rw [← ew1]; exact Blk.new w0 _ _
  have hg : w0.heap.size = g := by have := HS0.out; have := HG.out; omega
  have HX := Lib.hid (HX0.out.below hb1 HX0.out.lt)
  have HB := Lib.hid (HB0.out.trans (hb1.mono HB0.out.size))
  rw [hg] at hPB ⊢
  have HPF := Lib.hid (show PF g O on oc bs (at_, false) w1 from ⟨hPB, HI.out.rd.later HB.out, fun h0 ad e => by obtain ⟨ad1, e1, h1, -⟩ := HI.out.rd.2 h0; rw [e] at e1; injection e1 with e1; subst e1; have := HG.out; show _ ≠ g; omega⟩)
  clear hb1 hPB ew1 hg
  go_wp2_with fail
  have HC := Lib.hid (HC0.out w1 HPF)
  refine HC.out.mono ?_
  rintro e w2 ⟨M1, rfl, rfl, l1, hs, hk⟩
  clear HC
  have hk2 : Keep (Not g) w1 w2 := ⟨hk.os, hk.tape, hk.output, hk.size, fun k hk1 hl => hk.block k hl hk1⟩
  have HX := Lib.hid (hk2.blk HX.out (by show _ ≠ g; have := HG.out; omega))
  have HLO := Lib.hid (show w.heap.size + 1 < w1.heap.size from by have := HPF.out.blk.lt; have := HG.out; omega)
  have HB := Lib.hid (HB.out.trans (hk2.toBelow HB.out.size (fun k hk => by show k ≠ g; have := HG.out; omega)))
  have HM := Lib.hid (rMd_ok g O on oc bs HOV.out)
  have hwk := (Wk.start hs).alloc HM.out (.cells #[.int .i64 0, .int .i64 0, .int .i64 0, .int .u64 0, .slice none 0 0, .int .u64 0, .slice none 0 0, .slice none 0 0, .slice none 0 0, .slice none 0 0, .slice none 0 0, .slice none 0 0, .slice none 0 0, .int .u64 0] 53)
  have hbk := Bk.new HM.out (Wk.start hs) #[.int .i64 0, .int .i64 0, .int .i64 0, .int .u64 0, .slice none 0 0, .int .u64 0, .slice none 0 0, .slice none 0 0, .slice none 0 0, .slice none 0 0, .slice none 0 0, .slice none 0 0, .slice none 0 0, .int .u64 0] 53
  have l1a := (l1.ls.alloc HM.out hs (.cells #[.int .i64 0, .int .i64 0, .int .i64 0, .int .u64 0, .slice none 0 0, .int .u64 0, .slice none 0 0, .slice none 0 0, .slice none 0 0, .slice none 0 0, .slice none 0 0, .slice none 0 0, .slice none 0 0, .int .u64 0] 53)); have l1p := l1.ls.apart (Nat.le_refl _)
  have HWK := Lib.hid hwk
  have HBK := Lib.hid hbk
  have Hl1 := Lib.hid l1; have Hl1a := Lib.hid l1a; have Hl1p := Lib.hid l1p
  clear hwk hbk hk hk2 hs l1 l1a l1p
  go_wp2_with (refine wpl_store_blk rfl 53 (.tmp 8) (.tmp 16) rfl w2.heap.size 53 #[.int .i64 0, .int .i64 0, .int .i64 0, .int .u64 0, .slice none 0 0, .int .u64 0, .slice none 0 0, .slice none 0 0, .slice none 0 0, .slice none 0 0, .slice none 0 0, .slice none 0 0, .slice none 0 0, .int .u64 0] M1.cs rfl rfl HBK.out.blk rfl Tryz.sizeMet rfl ?_; intro w3 hB3 hO3)
  have HP3 := Lib.hid (HWK.out.only HM.out HBK.out hO3.out).st
  have hne : w.heap.size ≠ w2.heap.size := by have := HB.out.size; have := HX.out.lt; omega
  have HX := Lib.hid (hO3.out.blk (HX.out.alloc _) hne)
  have HB := Lib.hid ((HB.out.alloc HB.out.size (.cells #[.int .i64 0, .int .i64 0, .int .i64 0, .int .u64 0, .slice none 0 0, .int .u64 0, .slice none 0 0, .slice none 0 0, .slice none 0 0, .slice none 0 0, .slice none 0 0, .slice none 0 0, .slice none 0 0, .int .u64 0] 53)).trans ((hO3.out.below (Nat.le_refl _)).mono HB.out.size))
  have Ll1 := Lib.hid ((metx_in Hl1.out (Hl1a.out.only HM.out HWK.out.st hO3.out HBK.out.free Hl1p.out)))
  clear hne
  by_cases hout : at_ < 0 ∨ (on : Int) < at_
  · refine (ended_out g O on oc at_ w3 hout).mono ?_
    rintro e w4 ⟨rfl, rfl⟩
    have HOUT := Lib.hid hout
    clear hout
    go_wp2_with (refine wpl_store_blk rfl 53 (.tmp 4) (.tmp 26) rfl w.heap.size 53 #[.int .i64 0, .int .i64 0, .int .i64 0, .int .u64 0, .slice none 0 0, .int .u64 0, .slice none 0 0, .slice none 0 0, .slice none 0 0, .slice none 0 0, .slice none 0 0, .slice none 0 0, .slice none 0 0, .int .u64 0] #[.int .i64 0, .int .i64 0, .int .i64 0, .int .u64 0, .slice none 0 0, .int .u64 0, .slice none 0 0, .slice none 0 0, .slice none 0 0, .slice none 0 0, .slice none 0 0, .slice none 0 0, .slice none 0 0, .int .u64 0] rfl rfl HX.out rfl Tryz.sizeMet rfl ?_; intro w5 hB5 hO5)
    refine bodyPost_ret (v := .tuple #[.agg #[.int .i64 0, .int .i64 0, .int .i64 0, .int .u64 0, .slice none 0 0, .int .u64 0, .slice none 0 0, .slice none 0 0, .slice none 0 0, .slice none 0 0, .slice none 0 0, .slice none 0 0, .slice none 0 0, .int .u64 0], .int .i64 0, .int .i64 2]) (res_ctt Tryz.results11 rfl rfl rfl (load_blk hB5.out Tryz.underlying53 rfl Tryz.sizeMet)) rfl ?_
    have HB := HB.out.trans (hO5.out.below (Nat.le_refl _))
    exact ⟨HB, fun _ => rfl, fun h => absurd HOUT.out h, fun h => absurd HOUT.out h⟩
  · refine (ended_in g O on oc bs s2 at_ w3 HP3.out hout).mono ?_
    have HOUT := Lib.hid hout
    clear hout
    obtain ⟨p2, bad⟩ := s2
    cases bad with
    | true =>
      rintro e w4 ⟨rfl, rfl⟩
      go_wp2_with (refine wpl_store_blk rfl 53 (.tmp 4) (.tmp 26) rfl w.heap.size 53 #[.int .i64 0, .int .i64 0, .int .i64 0, .int .u64 0, .slice none 0 0, .int .u64 0, .slice none 0 0, .slice none 0 0, .slice none 0 0, .slice none 0 0, .slice none 0 0, .slice none 0 0, .slice none 0 0, .int .u64 0] #[.int .i64 0, .int .i64 0, .int .i64 0, .int .u64 0, .slice none 0 0, .int .u64 0, .slice none 0 0, .slice none 0 0, .slice none 0 0, .slice none 0 0, .slice none 0 0, .slice none 0 0, .slice none 0 0, .int .u64 0] rfl rfl HX.out rfl Tryz.sizeMet rfl ?_; intro w5 hB5 hO5)
      refine bodyPost_ret (v := .tuple #[.agg #[.int .i64 0, .int .i64 0, .int .i64 0, .int .u64 0, .slice none 0 0, .int .u64 0, .slice none 0 0, .slice none 0 0, .slice none 0 0, .slice none 0 0, .slice none 0 0, .slice none 0 0, .slice none 0 0, .int .u64 0], .int .i64 0, .int .i64 50]) (res_ctt Tryz.results11 rfl rfl rfl (load_blk hB5.out Tryz.underlying53 rfl Tryz.sizeMet)) rfl ?_
      have HB := HB.out.trans (hO5.out.below (Nat.le_refl _))
      exact ⟨HB, fun h => absurd h HOUT.out, fun _ _ => rfl, fun _ h => absurd (Eq.symm h) Bool.false_ne_true⟩
    | false =>
      rintro e w4 ⟨rfl, rfl⟩
      go_wp2_with (first | (refine wpl_load_blk rfl 53 (.tmp 8) rfl w2.heap.size 53 _ _ rfl hB3.out Tryz.underlying53 rfl Tryz.sizeMet ?_) | (refine wpl_store_blk rfl 53 (.tmp 4) (.tmp 28) rfl w.heap.size 53 #[.int .i64 0, .int .i64 0, .int .i64 0, .int .u64 0, .slice none 0 0, .int .u64 0, .slice none 0 0, .slice none 0 0, .slice none 0 0, .slice none 0 0, .slice none 0 0, .slice none 0 0, .slice none 0 0, .int .u64 0] M1.cs rfl rfl HX.out rfl Tryz.sizeMet rfl ?_; intro w5 hB5 hO5))
      refine bodyPost_ret (v := .tuple #[.agg M1.cs, .int .i64 p2, .int .i64 0]) (res_ctt Tryz.results11 rfl rfl rfl (load_blk hB5.out Tryz.underlying53 rfl Tryz.sizeMet)) rfl ?_
      have HB := HB.out.trans (hO5.out.below (Nat.le_refl _))
      have Ml1 := (Ll1.out.only hO5.out (Ll1.out.apart_lo (by have := HLO.out; omega))).mono (lo' := w.heap.size) (by have := HLO.out; omega)
      exact ⟨HB, fun h => absurd h HOUT.out, fun _ h => absurd h Bool.false_ne_true, fun _ _ => ⟨_, rfl, ⟨M1, rfl, rfl, Ml1⟩⟩⟩
theorem rx_meta (O : Option Addr) (on oc : Nat) (bs : List Nat) (p : Nat) (w : World) (HI : Hid (InB w O on oc bs)) (hp : p ≤ on) :
    Calls Tryz.prog 11 #[.slice O on oc, .int .i64 (p : Int)] w (RetG (rMet bs p) (uMet w.heap.size) (.agg #[.int .i64 0, .int .i64 0, .int .i64 0, .int .u64 0, .slice none 0 0, .int .u64 0, .slice none 0 0, .slice none 0 0, .slice none 0 0, .slice none 0 0, .slice none 0 0, .slice none 0 0, .slice none 0 0, .int .u64 0]) w) :=
  (rxa_meta O on oc bs p w HI).mono fun e w1 h => retA_in (see_met (g := w.heap.size + 1) (A := O) (n := on) (cap := oc) HI.out.byt) hp h
theorem rx_meta_bad (O : Option Addr) (on oc : Nat) (bs : List Nat) (at_ : Int) (w : World) (HI : Hid (InB w O on oc bs)) (h : at_ < 0 ∨ (on : Int) < at_) :
    Calls Tryz.prog 11 #[.slice O on oc, .int .i64 at_] w fun e w' => e = .returned (.tuple #[.agg #[.int .i64 0, .int .i64 0, .int .i64 0, .int .u64 0, .slice none 0 0, .int .u64 0, .slice none 0 0, .slice none 0 0, .slice none 0 0, .slice none 0 0, .slice none 0 0, .slice none 0 0, .slice none 0 0, .int .u64 0], .int .i64 0, .int .i64 2]) ∧ Below w.heap.size w w' :=
  (rxa_meta O on oc bs at_ w HI).mono fun e w1 ha => ⟨ha.2.1 h, ha.1⟩
end Go.Proofs.YthgiafjiemiifaaGreat
end
section
namespace Go.Proofs.YthgiafjiemiifaaGreat
open Go.RowKit OctMath
set_option linter.unusedVariables false
set_option linter.unusedSimpArgs false
def mm0 : MM := ⟨met0, none, 0, none, 0, none, 0, none, 0, none, 0, none, 0, none, 0, none, 0, [], []⟩
theorem metin_nil (lo : Nat) (w : World) : MetIn lo mm0 w := ⟨lst_nil _ _ _, lst_nil _ _ _, lst_nil _ _ _, lst_nil _ _ _, lst_nil _ _ _, lst_nil _ _ _, lst_nil _ _ _, lst_nil _ _ _, rfl, rfl, ⟨fun r hr => (List.not_mem_nil hr).elim⟩, ⟨fun r hr => (List.not_mem_nil hr).elim⟩⟩
theorem xu_meta (A : Option Addr) (n cap : Nat) (bs : List Nat) (at_ : Int) (w : World) (HI : Hid (InB w A n cap bs)) : Calls Tryz.prog 10 #[.slice A n cap, .int .i64 at_] w (RetU (resOf (rMet bs) met0 n at_) (vMet w.heap.size) w) :=
  retU_of (fun _ => ⟨mm0, rfl, rfl, metin_nil _ _, met0_ok⟩) (fun p e hp => by rw [e]; exact met_read A n cap bs p w HI hp) (fun h => met_read_bad A n cap at_ w HI.out.reach h)
theorem ru_meta (A : Option Addr) (n cap : Nat) (bs : List Nat) (at_ : Int) (w : World) (HI : Hid (InB w A n cap bs)) : Calls Tryz.prog 11 #[.slice A n cap, .int .i64 at_] w (RetU (resOf (rMet bs) met0 n at_) (uMet w.heap.size) w) :=
  retU_of (fun _ => ⟨mm0, rfl, rfl, metin_nil _ _⟩) (fun p e hp => by rw [e]; exact rx_meta A n cap bs p w HI hp) (fun h => rx_meta_bad A n cap bs at_ w HI h)
/-- A state that was read may be handed in. -/
theorem MetIn.rd {lo : Nat} {m : MM} {w : World} (h : MetIn lo m w) : MetR m w := ⟨h.map.rd, h.next.rd, h.cut.rd, by have := h.objs.rd; rwa [show m.os.length = m.x.objs.length from by rw [← h.os, List.length_map]] at this, by have := h.ints.rd; rwa [show m.is.length = m.x.ints.length from by rw [← h.is, List.length_map]] at this, h.sess.rd, h.wass.rd, h.down.rd, h.os, h.is, fun o ho => (h.oss.all _ (List.mem_map.2 ⟨o, ho, rfl⟩)).rd, fun o ho => (h.iss.all _ (List.mem_map.2 ⟨o, ho, rfl⟩)).rd⟩
end Go.Proofs.YthgiafjiemiifaaGreat
end
section
namespace Go.Proofs.YthgiafjiemiifaaGreat
open Go.RowKit
set_option linter.unusedVariables false
theorem Reads.first {w : World} {B n : Nat} {A : Option Addr} {xs : List Value} (h : Reads w B 1 A n xs) {k : Nat} (hk : k ≤ n) : Reads w B 1 A k (xs.take k) := by
  have hl : xs.length = n := by simpa using h.1
  refine ⟨by rw [List.length_take]; omega, fun h0 => ?_⟩
  obtain ⟨ad, rfl, hb, hc⟩ := h.2 (by omega)
  refine ⟨ad, rfl, hb, fun j u hu => hc j u ?_⟩
  rcases Nat.lt_or_ge j k with hj | hj
  · rw [List.getElem?_take_of_lt hj] at hu; exact hu
  · rw [List.getElem?_eq_none (by rw [List.length_take]; omega)] at hu; cases hu
/-- A part of a row: what the instruction answers, and what it reads. -/
theorem slice_mid {P : Program} {t e : TypeId} (ht : P.underlying t = some (.slice e)) (hi : (P.info? e).map (fun i => (i.zero, i.size, i.bytes)) = some (some (.int .u8 0), 1, 1)) {w : World} {B n cap : Nat} {A : Option Addr} {xs : List Nat} (h : Reads w B 1 A n (xs.map bv)) (j k : Nat) (hj : j ≤ k) (hk : k ≤ n) (hn : n ≤ cap) :
    ∃ A2, (∀ W : World, (Instr.sliceAt t (.slice A n cap) (some (.int .i64 (j : Int))) (some (.int .i64 (k : Int))) none).run P W = .ok (.slice A2 (k - j) (cap - j)) W) ∧
      (∀ w' : World, Reads w' B 1 A n (xs.map bv) → Reads w' B 1 A2 (k - j) (((xs.drop j).take (k - j)).map bv)) := by
  obtain ⟨i, hi, k2, k3, k4⟩ := info_parts hi
  refine ⟨if cap = j then A else A.map (·.add (j * 1)), fun W => slice_both ht hi k3 A n cap j k hj (by omega) W, fun w' h' => ?_⟩
  have hc := (h'.cut (k := j) (by omega) hn).first (k := k - j) (by omega)
  rw [Nat.mul_one, ← List.map_drop, ← List.map_take] at hc
  rw [Nat.mul_one]
  exact hc
/-- A drawn region whose operations yield the same value in every world of a class, and whose calls stay in it: walked once, in the text's order. -/
theorem wp_region_class {P : Program} {id : Nat} {Q : Exit → Act → World → Prop} {a : Act} {w : World} {l : List Oper} (C : World → Prop) (hm : P.follows .mixedOrders = true) (hB : Region.lexB .any l.toArray = true)
    (hC : C { w with drawn := w.drawn + 1 }) (h : wpQuiet P l.toArray C (fun a' => ∀ w', C w' → Q .normal a' w') l a) : (Code.region id l.toArray true).wp P Q a w :=
  wp_region_quiet (C := C) hm hB hC (by simpa using h)
end Go.Proofs.YthgiafjiemiifaaGreat
end
