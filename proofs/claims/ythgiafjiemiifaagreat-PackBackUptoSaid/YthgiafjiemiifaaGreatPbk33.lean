/-
  THE REFERENCE'S P, READING OR WRITING: rows of objects. (printed by gen_paq14.py). (joined out of PaQ15 by shake.py)
-/
import Derived.Test.YthgiafjiemiifaaGreatPbk32
section
namespace Go.Proofs.YthgiafjiemiifaaGreat
open Go.RowKit OctMath
set_option linter.unusedVariables false
variable {σ : Type}
def zOM : OM := ⟨⟨[], 0, 0, 0, 0, 0, []⟩, none, 0⟩
def objsF (M : Md σ) (s : σ) (l : List ObjT) : σ × List ObjT := itF M (objF M) (fun i => l.getD i (zOM).x) (M.len s l.length).2 (M.len s l.length).1
theorem zOM_ok : ObjOk (zOM).x := ⟨⟨(by intro y h; cases h), by decide⟩, by decide, ⟨by decide, by decide⟩, by decide, ⟨by decide, by decide⟩, by decide, ⟨(by intro y h; cases h), by decide⟩⟩
theorem f_objs {M : Md σ} (hM : MdOk M) {s : σ} {a : Nat} {l : List ObjT} (HO : (∀ y ∈ l, ObjOk y) ∧ l.length ≤ 1048576) (h : M.fit s (a + 12094799872010)) : M.fit (objsF M s l).1 a := by
  have h1 := hM.f_len (s := s) (a := a + 12094799872000) (x := l.length) h (by have := HO.2; omega)
  have h2 := hM.r_len (s := s) (x := l.length) HO.2
  exact itF_fit hM (one := objF M) (arg := fun i => l.getD i (zOM).x) (c := 11534500) (fun s i a h => f_object hM (getD_all (P := ObjOk) HO.1 zOM_ok i) h) _ a (hM.mono h1 (by omega))
def RetObs (M : Md σ) (s' : σ) (xs : List ObjT) (w : World) (e : Ending) (w' : World) : Prop :=
  ∃ A c, ∃ os : List OM, e = .returned (.slice A xs.length c) ∧ Lx M w.heap.size 7 A c os.length (os.flatMap omCs) w' ∧ LxL M w.heap.size (os.map OM.row) w' ∧ os.map (·.x) = xs ∧ M.St s' w' ∧ Stp M w w'
set_option maxRecDepth 100000 in
set_option maxHeartbeats 8000000 in
theorem pf_objs (M : Md σ) (hM : MdOk M) (s : σ) (A : Option Addr) (n cap : Nat) (ms : List OM) (w : World) (hS : Hid (M.St s w)) (hL : Hid (Ls M 7 A n (ms.flatMap omCs) w)) (hU : Hid (InsL M w.heap.size (ms.map OM.row) w)) (hn : Hid (ms.length = n)) (hn2 : n ≤ 1048576) (hI : Hid (∀ m ∈ ms, ObjOk m.x)) (hz : Hid (M.write = false → ms = [])) (hf : Hid (M.fit s 12094799872010)) :
    Calls Tryz.prog 67 #[.pointer (some ⟨M.g, 0, none⟩), .slice A n cap] w (RetObs M (objsF M s (ms.map (·.x))).1 (objsF M s (ms.map (·.x))).2 w) := by
  have HR := Lib.hid (show objsF M s (ms.map (·.x)) = itF M (objF M) (fun i => (ms.getD i zOM).x) (M.len s ms.length).2 (M.len s ms.length).1 from by
    have e : (fun i => (ms.map (·.x)).getD i (zOM).x) = (fun i => (ms.getD i zOM).x) := funext fun i => getD_map' (fun m : OM => m.x) ms zOM i
    unfold objsF
    rw [e, List.length_map])
  have HC := Lib.hid (hM.c_len s n w hS (by omega) (hM.mono hf.out (by omega)))
  have hm := hM.r_len (s := s) (x := n) hn2
  have HW := Lib.hid (fun h => hM.wlen h s n)
  have HF := Lib.hid (hM.f_len (s := s) (a := 12094799872000) (x := n) hf.out (by omega))
  have HIG := Lib.hid (fun i => getD_all (P := fun m : OM => ObjOk m.x) (z := zOM) hI.out zOM_ok i)
  rw [hn.out] at HR
  generalize objsF M s (ms.map (·.x)) = R at *
  generalize M.len s n = r at *
  obtain ⟨s1, m⟩ := r
  simp only at HC HR hm HW HF
  go_enter Tryz.func67, Tryz.ntmps67
  go_wp2_with fail
  refine HC.out.mono ?_
  rintro e w2 ⟨rfl, hs1, hk1⟩
  have HG0 := Lib.hid (Gr.start 63 7 ((Wk.start hS.out).call hs1 hk1))
  have HL1 := Lib.hid (hL.out.call hk1)
  have HA := Lib.hid (show 0 < n → ∀ ad, A = some ad → ad.block < w2.heap.size from fun h ad e => (HL1.out.free h ad e).lt)
  have HU1 := Lib.hid (show InsL M w2.heap.size (ms.map OM.row) w2 from ⟨fun m hm => ⟨((hU.out.all m hm).1.call hk1), fun h ad e => Nat.lt_of_lt_of_le ((hU.out.all m hm).2 h ad e) hk1.size⟩⟩)
  have hk2 := Lib.hid hk1.size
  clear hs1 hk1 HC
  go_wp2
  go_loopw [6, 7, 8] (fun vo vi _ wr => ∃ (k : Nat) (s' : σ) (ys : List OM), k ≤ m ∧ vi = .int .i64 k ∧ Hid (itF M (objF M) (fun i => (ms.getD i zOM).x) k s1 = (s', (ys.map (·.x)))) ∧ Hid (Gr M w w2 63 7 vo k (ys.flatMap omCs) s' wr) ∧ Hid (ys.length = k) ∧ Hid (Ls M 7 A n (ms.flatMap omCs) wr) ∧ Hid (InsL M w2.heap.size (ms.map OM.row) wr) ∧ Hid (Sbs M w2.heap.size vo (ys.map OM.row) wr)) (fun _ vi _ _ => m - (intOf vi).toNat)
  case atStart => exact ⟨0, s1, [], by omega, rfl, Lib.hid rfl, HG0, Lib.hid rfl, HL1, HU1, Lib.hid (Sbs.nil _ _ _ _)⟩
  case round =>
    obtain ⟨k, s', ys, hk, rfl, hT, hG, hlen, hLr, hUr, hVr⟩ := hrel
    clear HG0 HL1 HU1
    have hcw := hM.cwrite hG.out.wk.st
    have hcb := hM.cbad hG.out.wk.st
    by_cases hlt : k < m
    · have d1 : decide (k < m) = true := decide_eq_true hlt
      cases hbad : M.bad s' with
      | true =>
        rw [hbad] at hcb
        have hb : M.bad (itF M (objF M) (fun i => (ms.getD i zOM).x) k s1).1 = true := by rw [hT.out]; exact hbad
        have HE := Lib.hid ((HR.out.trans (itF_bad hb hk)).trans hT.out)
        clear hbad hb
        go_wp2
        go_ret
        rw [HE.out]
        obtain ⟨A1, c1, e1, h1, h2, h3⟩ := hG.out.list
        injection e1 with e1
        subst e1
        have hsz := hk2.out
        exact ⟨A1, c1, ys, by rw [List.length_map, hlen.out]; rfl, by rw [hlen.out]; exact h1, ⟨fun r hr => (hVr.out.all r hr).1.mono hsz⟩, rfl, h2, h3⟩
      | false =>
        rw [hbad] at hcb
        have HT1 := Lib.hid (itF_more hT.out hbad)
        have hfk := itF_fit hM (one := objF M) (arg := (fun i => (ms.getD i zOM).x)) (c := 11534500) (fun s i a h => f_object hM (HIG.out i) h) k 11534500 (hM.mono HF.out (by omega))
        rw [hT.out] at hfk
        have HFK := Lib.hid hfk
        have HOE := Lib.hid (HIG.out k)
        clear hbad hfk
        cases hw : M.write with
        | true =>
          rw [hw] at hcw
          have HWW := Lib.hid hw
          obtain rfl := HW.out hw
          obtain ⟨ad, hA, hbl, hc⟩ := hLr.out.rd.2 (by omega : 0 < m)
          subst hA
          have hke : k < ms.length := by rw [hn.out]; exact hlt
          have hrow := row_cells (cells := omCs) (size := 7) (fun _ => rfl) hc hke
          have hge : ms.getD k zOM = ms[k] := by rw [List.getD_eq_getElem?_getD, List.getElem?_eq_getElem hke]; rfl
          have hmm := List.getElem_mem hke
          have hrw := Lib.hid ((hUr.out.all _ (List.mem_map.2 ⟨_, hmm, rfl⟩ : OM.row ms[k] ∈ ms.map OM.row)).1)
          have hrz := Lib.hid (fun h => absurd (hw.symm.trans h) (by decide) : M.write = false → (ms[k]).x.nodes = [])
          rw [hge] at HT1 HOE
          obtain ⟨m0, hm0⟩ : ∃ m0, ms[k] = m0 := ⟨_, rfl⟩
          rw [hm0] at HT1 HOE hrow hrw hrz
          have HROW := Lib.hid (cells_below' hrow (by rw [block_of_add]; exact hbl) : ∀ W, Below wr.heap.size wr W → _)
          clear hw hc hbl hrow hge hm0 hmm
          obtain ⟨x, hx⟩ : ∃ x, wr.heap.size = x := ⟨_, rfl⟩
          have hbs := Lib.hid (hG.out.off (Nat.le_refl _))
          have haL := Lib.hid (hLr.out.apart (Nat.le_refl _))
          have haU := Lib.hid (hUr.out.apart (Nat.le_refl _))
          have haV := Lib.hid (hVr.out.apart (Nat.le_refl _))
          have haW := Lib.hid (hrw.out.apart (Nat.le_refl _))
          have hnw := Blk.new wr 63 #[.string ⟨#[]⟩, .int .u64 0, .int .i64 0, .int .u32 0, .int .i64 0, .int .u64 0, .slice none 0 0]
          rw [hx] at hbs haL hnw haU haV haW
          have HNW := Lib.hid hnw
          clear hnw
          go_wp2_with (first
            | (refine wpl_store_blk rfl 63 (.tmp 8) (.tmp 25) rfl x 63 #[.string ⟨#[]⟩, .int .u64 0, .int .i64 0, .int .u32 0, .int .i64 0, .int .u64 0, .slice none 0 0] #[.string ⟨#[]⟩, .int .u64 0, .int .i64 0, .int .u32 0, .int .i64 0, .int .u64 0, .slice none 0 0] rfl rfl HNW.out rfl Tryz.sizeO rfl ?_; intro w4 hB4 hO4
               have hX := (Bk.new hM hG.out.wk #[.string ⟨#[]⟩, .int .u64 0, .int .i64 0, .int .u32 0, .int .i64 0, .int .u64 0, .slice none 0 0] 63)
               have hG4 := hG.out.alloc hM (.cells #[.string ⟨#[]⟩, .int .u64 0, .int .i64 0, .int .u32 0, .int .i64 0, .int .u64 0, .slice none 0 0] 63)
               rw [hx] at hX
               have X4 := Lib.hid (hX.turn hM hG4.wk.st hO4.out hB4.out)
               have G4 := Lib.hid (hG4.only hM hX hO4.out hbs.out)
               have L4 := Lib.hid ((hLr.out.alloc hM hG.out.wk.st (.cells #[.string ⟨#[]⟩, .int .u64 0, .int .i64 0, .int .u32 0, .int .i64 0, .int .u64 0, .slice none 0 0] 63)).only hM hG4.wk.st hO4.out hX.free haL.out)
               have U4 := Lib.hid ((hUr.out.alloc hM hG.out.wk.st (.cells #[.string ⟨#[]⟩, .int .u64 0, .int .i64 0, .int .u32 0, .int .i64 0, .int .u64 0, .slice none 0 0] 63)).only hM hG4.wk.st hO4.out hX.free haU.out)
               have V4 := Lib.hid ((hVr.out.alloc hM hG.out.wk.st (.cells #[.string ⟨#[]⟩, .int .u64 0, .int .i64 0, .int .u32 0, .int .i64 0, .int .u64 0, .slice none 0 0] 63)).only hM hG4.wk.st hO4.out hX.free haV.out)
               have W4 := Lib.hid ((hrw.out.alloc hM hG.out.wk.st (.cells #[.string ⟨#[]⟩, .int .u64 0, .int .i64 0, .int .u32 0, .int .i64 0, .int .u64 0, .slice none 0 0] 63)).only hM hG4.wk.st hO4.out hX.free haW.out)
               have pw := hM.cwrite G4.out.wk.st
               rw [HWW.out] at pw
               have HRW := Lib.hid (HROW.out w4 (((Below.refl _ _).alloc (Nat.le_refl _) _).trans (hO4.out.below (by rw [hx]; exact Nat.le_refl _))))
               clear hX hG4 hB4 hO4)
            | (refine wpl_load_at rfl 63 (.tmp 32) rfl (ad.add (k * 7)) (#[.string (strOf m0.x.key), .int .u64 (m0.x.version : Int), .int .i64 m0.x.size, .int .u32 (m0.x.sum : Int), .int .i64 m0.x.group, .int .u64 (m0.x.epoch : Int), .slice m0.A m0.x.nodes.length m0.c] : Array Value).toList _ rfl HRW.out Tryz.underlying63 rfl Tryz.sizeO ?_)
            | (refine wpl_store_blk rfl 63 (.tmp 8) (.tmp 33) rfl x 63 _ #[.string (strOf m0.x.key), .int .u64 (m0.x.version : Int), .int .i64 m0.x.size, .int .u32 (m0.x.sum : Int), .int .i64 m0.x.group, .int .u64 (m0.x.epoch : Int), .slice m0.A m0.x.nodes.length m0.c] rfl rfl X4.out.blk rfl Tryz.sizeO rfl ?_; intro w5 hB5 hO5
               have G := Lib.hid (G4.out.only hM X4.out hO5.out hbs.out)
               have X := Lib.hid (X4.out.turn hM G4.out.wk.st hO5.out hB5.out)
               have L := Lib.hid (L4.out.only hM G4.out.wk.st hO5.out X4.out.free haL.out)
               have U := Lib.hid (U4.out.only hM G4.out.wk.st hO5.out X4.out.free haU.out)
               have V := Lib.hid (V4.out.only hM G4.out.wk.st hO5.out X4.out.free haV.out)
               have RW := Lib.hid (W4.out.only hM G4.out.wk.st hO5.out X4.out.free haW.out)
               clear pw HWW hB5 hO5 G4 X4 L4 HRW U4 V4 W4)
            | (refine wpl_load_blk rfl 63 (.tmp 8) rfl x 63 _ _ rfl X.out.blk Tryz.underlying63 rfl Tryz.sizeO ?_))
          have RZ := hrz
          have HC := Lib.hid (pf_object M hM s' m0.A m0.c m0.x _ (Lib.hid G.out.wk.st) RW HOE.out (Lib.hid RZ.out) (Lib.hid HFK.out))
          generalize objF M s' m0.x = r at *
          obtain ⟨s9, z⟩ := r
          simp only at HC HT1
          refine HC.out.mono ?_
          rintro e w6 ⟨A7, c7, rfl, l7, hs, hk⟩
          clear HC RW
          unfold objCs
          have N := Lib.hid (And.intro (l7.mono G.out.hi) (G.out.off_new l7.lo))
          have L := Lib.hid (L.out.call hk)
          have U := Lib.hid (U.out.call hk)
          have V := Lib.hid (V.out.call hk)
          have G := Lib.hid (G.out.call hs hk)
          clear hs hk l7
          go_wp2_with (first
            | (at_builtin
               refine wpl_gr3 hM rfl _ _ 48 _ 80 Tryz.underlying48 Tryz.infoObj rfl (by decide) (by decide) rfl G.out (by omega) [.string (strOf z.key), .int .u64 (z.version : Int), .int .i64 z.size, .int .u32 (z.sum : Int), .int .i64 z.group, .int .u64 (z.epoch : Int), .slice A7 z.nodes.length c7] rfl (by intro u hu; simp only [List.mem_cons, List.not_mem_nil, or_false] at hu; rcases hu with rfl | rfl | rfl | rfl | rfl | rfl | rfl <;> rfl) rfl rfl ?_
               intro v10 w10 hG10 hV10))
          refine ⟨⟨k + 1, s9, ys ++ [⟨z, A7, c7⟩], by omega, by go_num, Lib.hid (by rw [List.map_append]; exact HT1.out), Lib.hid (by rw [List.flatMap_append]; exact hG10.out.1), Lib.hid (by rw [List.length_append, hlen.out]; rfl), Lib.hid (Ls.more hM (G.out.alloc hM _) hG10.out.2 (L.out.alloc hM G.out.wk.st _) HA.out), Lib.hid (InsL.more hM (G.out.alloc hM _) hG10.out.2 (U.out.alloc hM G.out.wk.st _)), Lib.hid (by rw [List.map_append]; exact Sbs.more hM (G.out.alloc hM _) hG10.out.2 hV10.out ((V.out.add (r := OM.row ⟨z, A7, c7⟩) N.out).alloc hM G.out.wk.st _))⟩, by simp [intOf]; omega⟩
        | false =>
          rw [hw] at hcw
          have HWW := Lib.hid hw
          have hge : ms.getD k zOM = zOM := by rw [hz.out hw]; rfl
          rw [hge] at HT1 HOE
          obtain ⟨m0, hm0⟩ : ∃ m0, zOM = m0 := ⟨_, rfl⟩
          have hrw := Lib.hid (show Ls M 1 m0.A m0.x.nodes.length (m0.x.nodes.map iv) wr from by rw [← hm0]; exact ⟨Reads.none_, fun h => absurd h (by decide)⟩)
          have hrz := Lib.hid (show M.write = false → m0.x.nodes = [] from fun _ => by rw [← hm0]; rfl)
          rw [hm0] at HOE
          have HT1 := (show Hid (itF M (objF M) (fun i => (ms.getD i zOM).x) (k + 1) s1 = ((objF M s' m0.x).1, (ys.map (·.x)) ++ [(objF M s' m0.x).2])) from by rw [← hm0]; exact HT1)
          clear hw hge
          obtain ⟨x, hx⟩ : ∃ x, wr.heap.size = x := ⟨_, rfl⟩
          have hbs := Lib.hid (hG.out.off (Nat.le_refl _))
          have haL := Lib.hid (hLr.out.apart (Nat.le_refl _))
          have haU := Lib.hid (hUr.out.apart (Nat.le_refl _))
          have haV := Lib.hid (hVr.out.apart (Nat.le_refl _))
          have haW := Lib.hid (hrw.out.apart (Nat.le_refl _))
          have hnw := Blk.new wr 63 #[.string ⟨#[]⟩, .int .u64 0, .int .i64 0, .int .u32 0, .int .i64 0, .int .u64 0, .slice none 0 0]
          rw [hx] at hbs haL hnw haU haV haW
          have HNW := Lib.hid hnw
          clear hnw
          go_wp2_with (first
            | (refine wpl_store_blk rfl 63 (.tmp 8) (.tmp 25) rfl x 63 #[.string ⟨#[]⟩, .int .u64 0, .int .i64 0, .int .u32 0, .int .i64 0, .int .u64 0, .slice none 0 0] #[.string ⟨#[]⟩, .int .u64 0, .int .i64 0, .int .u32 0, .int .i64 0, .int .u64 0, .slice none 0 0] rfl rfl HNW.out rfl Tryz.sizeO rfl ?_; intro w4 hB4 hO4
               have hX := (Bk.new hM hG.out.wk #[.string ⟨#[]⟩, .int .u64 0, .int .i64 0, .int .u32 0, .int .i64 0, .int .u64 0, .slice none 0 0] 63)
               have hG4 := hG.out.alloc hM (.cells #[.string ⟨#[]⟩, .int .u64 0, .int .i64 0, .int .u32 0, .int .i64 0, .int .u64 0, .slice none 0 0] 63)
               rw [hx] at hX
               have X4 := Lib.hid (hX.turn hM hG4.wk.st hO4.out hB4.out)
               have G4 := Lib.hid (hG4.only hM hX hO4.out hbs.out)
               have L4 := Lib.hid ((hLr.out.alloc hM hG.out.wk.st (.cells #[.string ⟨#[]⟩, .int .u64 0, .int .i64 0, .int .u32 0, .int .i64 0, .int .u64 0, .slice none 0 0] 63)).only hM hG4.wk.st hO4.out hX.free haL.out)
               have U4 := Lib.hid ((hUr.out.alloc hM hG.out.wk.st (.cells #[.string ⟨#[]⟩, .int .u64 0, .int .i64 0, .int .u32 0, .int .i64 0, .int .u64 0, .slice none 0 0] 63)).only hM hG4.wk.st hO4.out hX.free haU.out)
               have V4 := Lib.hid ((hVr.out.alloc hM hG.out.wk.st (.cells #[.string ⟨#[]⟩, .int .u64 0, .int .i64 0, .int .u32 0, .int .i64 0, .int .u64 0, .slice none 0 0] 63)).only hM hG4.wk.st hO4.out hX.free haV.out)
               have W4 := Lib.hid ((hrw.out.alloc hM hG.out.wk.st (.cells #[.string ⟨#[]⟩, .int .u64 0, .int .i64 0, .int .u32 0, .int .i64 0, .int .u64 0, .slice none 0 0] 63)).only hM hG4.wk.st hO4.out hX.free haW.out)
               have pw := hM.cwrite G4.out.wk.st
               rw [HWW.out] at pw
               have X := Lib.hid (show Bk M w x 63 #[.string (strOf m0.x.key), .int .u64 (m0.x.version : Int), .int .i64 m0.x.size, .int .u32 (m0.x.sum : Int), .int .i64 m0.x.group, .int .u64 (m0.x.epoch : Int), .slice m0.A m0.x.nodes.length m0.c] w4 from (by rw [← hm0]; exact X4.out))
               have G := G4
               have L := L4
               have U := U4
               have V := V4
               have RW := W4
               clear hX hG4 hB4 hO4 G4 L4 X4 hm0 U4 V4 W4)
            | (refine wpl_load_blk rfl 63 (.tmp 8) rfl x 63 _ _ rfl X.out.blk Tryz.underlying63 rfl Tryz.sizeO ?_))
          have RZ := hrz
          have HC := Lib.hid (pf_object M hM s' m0.A m0.c m0.x _ (Lib.hid G.out.wk.st) RW HOE.out (Lib.hid RZ.out) (Lib.hid HFK.out))
          generalize objF M s' m0.x = r at *
          obtain ⟨s9, z⟩ := r
          simp only at HC HT1
          refine HC.out.mono ?_
          rintro e w6 ⟨A7, c7, rfl, l7, hs, hk⟩
          clear HC RW
          unfold objCs
          have N := Lib.hid (And.intro (l7.mono G.out.hi) (G.out.off_new l7.lo))
          have L := Lib.hid (L.out.call hk)
          have U := Lib.hid (U.out.call hk)
          have V := Lib.hid (V.out.call hk)
          have G := Lib.hid (G.out.call hs hk)
          clear hs hk l7
          go_wp2_with (first
            | (at_builtin
               refine wpl_gr3 hM rfl _ _ 48 _ 80 Tryz.underlying48 Tryz.infoObj rfl (by decide) (by decide) rfl G.out (by omega) [.string (strOf z.key), .int .u64 (z.version : Int), .int .i64 z.size, .int .u32 (z.sum : Int), .int .i64 z.group, .int .u64 (z.epoch : Int), .slice A7 z.nodes.length c7] rfl (by intro u hu; simp only [List.mem_cons, List.not_mem_nil, or_false] at hu; rcases hu with rfl | rfl | rfl | rfl | rfl | rfl | rfl <;> rfl) rfl rfl ?_
               intro v10 w10 hG10 hV10))
          refine ⟨⟨k + 1, s9, ys ++ [⟨z, A7, c7⟩], by omega, by go_num, Lib.hid (by rw [List.map_append]; exact HT1.out), Lib.hid (by rw [List.flatMap_append]; exact hG10.out.1), Lib.hid (by rw [List.length_append, hlen.out]; rfl), Lib.hid (Ls.more hM (G.out.alloc hM _) hG10.out.2 (L.out.alloc hM G.out.wk.st _) HA.out), Lib.hid (InsL.more hM (G.out.alloc hM _) hG10.out.2 (U.out.alloc hM G.out.wk.st _)), Lib.hid (by rw [List.map_append]; exact Sbs.more hM (G.out.alloc hM _) hG10.out.2 hV10.out ((V.out.add (r := OM.row ⟨z, A7, c7⟩) N.out).alloc hM G.out.wk.st _))⟩, by simp [intOf]; omega⟩
    · obtain rfl : k = m := by omega
      have HE := Lib.hid (HR.out.trans hT.out)
      go_wp2
      go_ret
      rw [HE.out]
      obtain ⟨A1, c1, e1, h1, h2, h3⟩ := hG.out.list
      injection e1 with e1
      subst e1
      have hsz := hk2.out
      exact ⟨A1, c1, ys, by rw [List.length_map, hlen.out]; rfl, by rw [hlen.out]; exact h1, ⟨fun r hr => (hVr.out.all r hr).1.mono hsz⟩, rfl, h2, h3⟩
end Go.Proofs.YthgiafjiemiifaaGreat
end
