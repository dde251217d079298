/-
  THE REFERENCE'S P, READING OR WRITING: names, heads, configurations. (printed by gen_paq5.py); THE PROGRAM'S READER: members, maps. (printed by gen_par6.py). (joined out of PaQ5, PaR8 by shake.py)
-/
import Derived.Test.YthgiafjiemiifaaGreatPbk09
section
namespace Go.Proofs.YthgiafjiemiifaaGreat
open Go.RowKit OctMath
set_option linter.unusedVariables false
variable {σ : Type}
def IdOk (x : IdT) : Prop := x.ver < 18446744073709551616 ∧ (-9223372036854775808 ≤ x.idx ∧ x.idx ≤ 9223372036854775807) ∧ x.ep < 18446744073709551616
def idCs (x : IdT) : Array Value := #[.int .u64 (x.ver : Int), .int .i64 x.idx, .int .u64 (x.ep : Int)]
theorem f_id {M : Md σ} (hM : MdOk M) {s : σ} {a : Nat} {x : IdT} (h : M.fit s (a + 30)) (HO : IdOk x) : M.fit (idF M s x).1 a := by
  show M.fit (bnd (M.u64 s x.ver) fun s1 y1 => bnd (M.int s1 x.idx) fun s2 y2 => bnd (M.u64 s2 x.ep) fun s3 y3 => (s3, ⟨y1, y2, y3⟩) : σ × (IdT)).1 a
  have h1 := hM.f_u64 (s := s) (x := x.ver) (a := a + 20) (hM.mono h (by omega)) HO.1
  generalize M.u64 s x.ver = r1 at *
  obtain ⟨s1, y1⟩ := r1
  rw [bnd_mk]
  have h2 := hM.f_int (s := s1) (x := x.idx) (a := a + 10) (hM.mono h1 (by omega)) HO.2.1
  generalize M.int s1 x.idx = r2 at *
  obtain ⟨s2, y2⟩ := r2
  rw [bnd_mk]
  have h3 := hM.f_u64 (s := s2) (x := x.ep) (a := a + 0) (hM.mono h2 (by omega)) HO.2.2
  generalize M.u64 s2 x.ep = r3 at *
  obtain ⟨s3, y3⟩ := r3
  rw [bnd_mk]
  exact hM.mono h3 (by omega)
set_option maxRecDepth 100000 in
set_option maxHeartbeats 4000000 in
theorem pf_id (M : Md σ) (hM : MdOk M) (s : σ) (x : IdT) (w : World) (hS : Hid (M.St s w))  (HO : IdOk x)  (hf : M.fit s 30) :
    Calls Tryz.prog 102 #[.pointer (some ⟨M.g, 0, none⟩), .agg #[.int .u64 (x.ver : Int), .int .i64 x.idx, .int .u64 (x.ep : Int)]] w (RetP M (idF M s x).1 (.agg (idCs (idF M s x).2)) w) := by
  have HR := Lib.hid (show idF M s x = bnd (M.u64 s x.ver) fun s1 y1 => bnd (M.int s1 x.idx) fun s2 y2 => bnd (M.u64 s2 x.ep) fun s3 y3 => (s3, ⟨y1, y2, y3⟩) from rfl)
  have HF := Lib.hid hf
  have HO := Lib.hid HO
  obtain ⟨w0, ew0⟩ : ∃ w0, ((w.alloc (.cells #[.int .u64 (x.ver : Int), .int .i64 x.idx, .int .u64 (x.ep : Int)] 28)).alloc (.cells #[.int .u64 0, .int .i64 0, .int .u64 0] 28)) = w0 := ⟨_, rfl⟩
  have hwa := (Wk.start hS.out).alloc hM (.cells #[.int .u64 (x.ver : Int), .int .i64 x.idx, .int .u64 (x.ep : Int)] 28)
  have hx := (Bk.new hM (Wk.start hS.out) #[.int .u64 (x.ver : Int), .int .i64 x.idx, .int .u64 (x.ep : Int)] 28).alloc hM hwa.st (.cells #[.int .u64 0, .int .i64 0, .int .u64 0] 28)
  have hr : Bk M w (w.heap.size + 1) 28 #[.int .u64 0, .int .i64 0, .int .u64 0] ((w.alloc (.cells #[.int .u64 (x.ver : Int), .int .i64 x.idx, .int .u64 (x.ep : Int)] 28)).alloc (.cells #[.int .u64 0, .int .i64 0, .int .u64 0] 28)) := by have := Bk.new hM hwa #[.int .u64 0, .int .i64 0, .int .u64 0] 28; simpa using this
  have hw := hwa.alloc hM (.cells #[.int .u64 0, .int .i64 0, .int .u64 0] 28)
  rw [ew0] at hx hr hw
  have HX := Lib.hid hx
  have HB := Lib.hid hr
  have HW := Lib.hid hw
  clear hx hr hw hwa
  have cx0 := HX.out.blk.cell 0
  go_enter Tryz.func102, Tryz.ntmps102
  go_wp2_with fail
  clear ew0 cx0
  have HC := Lib.hid (hM.c_u64 s x.ver _ (Lib.hid HW.out.st) HO.out.1 (hM.mono HF.out (by omega)))
  have HF := Lib.hid (hM.f_u64 (s := s) (x := x.ver) (a := 20) (hM.mono HF.out (by omega)) HO.out.1)
  generalize M.u64 s x.ver = r at *
  obtain ⟨s1, y1⟩ := r
  rw [bnd_mk] at HR
  simp only at HC HF
  refine HC.out.mono ?_
  rintro e w1 ⟨rfl, hs, hk⟩
  clear HC
  have HX := Lib.hid (HX.out.call hk)
  have HB := Lib.hid (HB.out.call hk)
  have HW := Lib.hid (HW.out.call hs hk)
  clear hs hk
  have cx0 := HX.out.blk.cell 0
  have fx := HX.out.blk.frozen
  have cx1 := HX.out.blk.cell 1
  go_wp2_with fail
  obtain ⟨v1, ew⟩ : ∃ v1, w1.setCell ⟨w.heap.size, 0, none⟩ (.int .u64 (y1 : Int)) = v1 := ⟨_, rfl⟩
  have hO := (Only.set_ w1 w.heap.size 0 (.int .u64 (y1 : Int)))
  have hB : Blk (w1.setCell ⟨w.heap.size, 0, none⟩ (.int .u64 (y1 : Int))) w.heap.size 28 #[.int .u64 (y1 : Int), .int .i64 x.idx, .int .u64 (x.ep : Int)] := by have := (HX.out.blk.set_ 0 (.int .u64 (y1 : Int))); simpa using this
  rw [ew] at hO hB ⊢
  have HB := Lib.hid (HB.out.only hM HW.out.st hO HX.out.free (by omega))
  have HX1 := Lib.hid (HX.out.turn hM HW.out.st hO hB)
  have HW := Lib.hid (HW.out.only hM HX.out hO)
  have HX := HX1
  clear HX1 ew hO hB fx cx0 cx1
  have HC := Lib.hid (hM.c_int s1 x.idx _ (Lib.hid HW.out.st) HO.out.2.1 (hM.mono HF.out (by omega)))
  have HF := Lib.hid (hM.f_int (s := s1) (x := x.idx) (a := 10) (hM.mono HF.out (by omega)) HO.out.2.1)
  generalize M.int s1 x.idx = r at *
  obtain ⟨s2, y2⟩ := r
  rw [bnd_mk] at HR
  simp only at HC HF
  refine HC.out.mono ?_
  rintro e w2 ⟨rfl, hs, hk⟩
  clear HC
  have HX := Lib.hid (HX.out.call hk)
  have HB := Lib.hid (HB.out.call hk)
  have HW := Lib.hid (HW.out.call hs hk)
  clear hs hk
  have cx1 := HX.out.blk.cell 1
  have fx := HX.out.blk.frozen
  have cx2 := HX.out.blk.cell 2
  go_wp2_with fail
  obtain ⟨v2, ew⟩ : ∃ v2, w2.setCell ⟨w.heap.size, 1, none⟩ (.int .i64 y2) = v2 := ⟨_, rfl⟩
  have hO := (Only.set_ w2 w.heap.size 1 (.int .i64 y2))
  have hB : Blk (w2.setCell ⟨w.heap.size, 1, none⟩ (.int .i64 y2)) w.heap.size 28 #[.int .u64 (y1 : Int), .int .i64 y2, .int .u64 (x.ep : Int)] := by have := (HX.out.blk.set_ 1 (.int .i64 y2)); simpa using this
  rw [ew] at hO hB ⊢
  have HB := Lib.hid (HB.out.only hM HW.out.st hO HX.out.free (by omega))
  have HX1 := Lib.hid (HX.out.turn hM HW.out.st hO hB)
  have HW := Lib.hid (HW.out.only hM HX.out hO)
  have HX := HX1
  clear HX1 ew hO hB fx cx1 cx2
  have HC := Lib.hid (hM.c_u64 s2 x.ep _ (Lib.hid HW.out.st) HO.out.2.2 (hM.mono HF.out (by omega)))
  have HF := Lib.hid (hM.f_u64 (s := s2) (x := x.ep) (a := 0) (hM.mono HF.out (by omega)) HO.out.2.2)
  generalize M.u64 s2 x.ep = r at *
  obtain ⟨s3, y3⟩ := r
  rw [bnd_mk] at HR
  simp only at HC HF
  refine HC.out.mono ?_
  rintro e w3 ⟨rfl, hs, hk⟩
  clear HC
  have HX := Lib.hid (HX.out.call hk)
  have HB := Lib.hid (HB.out.call hk)
  have HW := Lib.hid (HW.out.call hs hk)
  clear hs hk
  have cx2 := HX.out.blk.cell 2
  have fx := HX.out.blk.frozen
  have hO := (Only.set_ w3 w.heap.size 2 (.int .u64 (y3 : Int)))
  have hB : Blk (w3.setCell ⟨w.heap.size, 2, none⟩ (.int .u64 (y3 : Int))) w.heap.size 28 #[.int .u64 (y1 : Int), .int .i64 y2, .int .u64 (y3 : Int)] := by have := (HX.out.blk.set_ 2 (.int .u64 (y3 : Int))); simpa using this
  have HB := Lib.hid (HB.out.only hM HW.out.st hO HX.out.free (by omega))
  have HX1 := Lib.hid (HX.out.turn hM HW.out.st hO hB)
  have HW := Lib.hid (HW.out.only hM HX.out hO)
  have HX := HX1
  clear HX1 hO hB
  go_wp2_with (first | (refine wpl_load_blk rfl 28 (.tmp 3) rfl w.heap.size 28 _ _ rfl HX.out.blk Tryz.underlying28 rfl Tryz.sizeI ?_) | (refine wpl_store_blk rfl 28 (.tmp 4) (.tmp 20) rfl (w.heap.size + 1) 28 _ #[.int .u64 (y1 : Int), .int .i64 y2, .int .u64 (y3 : Int)] rfl rfl HB.out.blk rfl Tryz.sizeI rfl ?_; intro wf hB hO))
  have HW := Lib.hid (HW.out.only hM HB.out hO.out)
  refine bodyPost_ret (v := .agg #[.int .u64 (y1 : Int), .int .i64 y2, .int .u64 (y3 : Int)]) (res_c Tryz.results102 rfl (load_blk hB.out Tryz.underlying28 rfl Tryz.sizeI)) rfl ?_
  rw [HR.out]
  exact ⟨rfl, HW.out.st, HW.out.stp⟩
theorem HdOk.id_ {x : HdT} (h : HdOk x) : IdOk x.id := ⟨h.ver, h.idx, h.ep⟩
def IntsOk (l : List Int) : Prop := (∀ y ∈ l, I64 y) ∧ l.length ≤ 1048576
def RetCf (M : Md σ) (s' : σ) (y : List Int × List Int) (w : World) (e : Ending) (w' : World) : Prop :=
  ∃ A c B d, e = .returned (.agg #[.slice A y.1.length c, .slice B y.2.length d]) ∧ Lx M w.heap.size 1 A c y.1.length (y.1.map iv) w' ∧ Lx M w.heap.size 1 B d y.2.length (y.2.map iv) w' ∧ M.St s' w' ∧ Stp M w w'
theorem f_conf {M : Md σ} (hM : MdOk M) {s : σ} {a : Nat} {x : List Int × List Int} (HO : IntsOk x.1 ∧ IntsOk x.2) (h : M.fit s (a + 20971590)) : M.fit (confF M s x).1 a := by
  show M.fit (bnd (intsF M s x.1) fun s1 y1 => bnd (intsF M s1 x.2) fun s2 y2 => (s2, (y1, y2)) : σ × (List Int × List Int)).1 a
  have h1 := f_ints hM (HO.1).2 (getD_I64 (HO.1).1) (a := a + 10485800) (hM.mono h (by omega))
  generalize intsF M s x.1 = r1 at *
  obtain ⟨s1, y1⟩ := r1
  rw [bnd_mk]
  have h2 := f_ints hM (HO.2).2 (getD_I64 (HO.2).1) (a := a + 10) (hM.mono h1 (by omega))
  generalize intsF M s1 x.2 = r2 at *
  obtain ⟨s2, y2⟩ := r2
  rw [bnd_mk]
  exact hM.mono h2 (by omega)
set_option maxRecDepth 100000 in
set_option maxHeartbeats 4000000 in
theorem pf_conf (M : Md σ) (hM : MdOk M) (s : σ) (A : Option Addr) (c : Nat) (B : Option Addr) (d : Nat) (x : List Int × List Int) (w : World) (hS : Hid (M.St s w)) (hK : Hid (Ls M 1 A x.1.length (x.1.map iv) w)) (hJ : Hid (Ls M 1 B x.2.length (x.2.map iv) w)) (HO : IntsOk x.1 ∧ IntsOk x.2) (KZ : Hid (M.write = false → x.1 = [])) (JZ : Hid (M.write = false → x.2 = [])) (hf : Hid (M.fit s 20971590)) :
    Calls Tryz.prog 48 #[.pointer (some ⟨M.g, 0, none⟩), .agg #[.slice A x.1.length c, .slice B x.2.length d]] w (RetCf M (confF M s x).1 (confF M s x).2 w) := by
  have HR := Lib.hid (show confF M s x = bnd (intsF M s x.1) fun s1 y1 => bnd (intsF M s1 x.2) fun s2 y2 => (s2, (y1, y2)) from rfl)
  have HF := Lib.hid hf.out
  have HO := Lib.hid HO
  obtain ⟨w0, ew0⟩ : ∃ w0, ((w.alloc (.cells #[.slice A x.1.length c, .slice B x.2.length d] 36)).alloc (.cells #[.slice none 0 0, .slice none 0 0] 36)) = w0 := ⟨_, rfl⟩
  have hwa := (Wk.start hS.out).alloc hM (.cells #[.slice A x.1.length c, .slice B x.2.length d] 36)
  have hx := (Bk.new hM (Wk.start hS.out) #[.slice A x.1.length c, .slice B x.2.length d] 36).alloc hM hwa.st (.cells #[.slice none 0 0, .slice none 0 0] 36)
  have hr : Bk M w (w.heap.size + 1) 36 #[.slice none 0 0, .slice none 0 0] ((w.alloc (.cells #[.slice A x.1.length c, .slice B x.2.length d] 36)).alloc (.cells #[.slice none 0 0, .slice none 0 0] 36)) := by have := Bk.new hM hwa #[.slice none 0 0, .slice none 0 0] 36; simpa using this
  have hw := hwa.alloc hM (.cells #[.slice none 0 0, .slice none 0 0] 36)
  have hK1 := (hK.out.alloc hM hS.out (.cells #[.slice A x.1.length c, .slice B x.2.length d] 36)).alloc hM hwa.st (.cells #[.slice none 0 0, .slice none 0 0] 36)
  have aK := Lib.hid (hK.out.apart (Nat.le_refl _))
  have bK := Lib.hid (hK.out.apart (Nat.le_succ _))
  have hJ1 := (hJ.out.alloc hM hS.out (.cells #[.slice A x.1.length c, .slice B x.2.length d] 36)).alloc hM hwa.st (.cells #[.slice none 0 0, .slice none 0 0] 36)
  have aJ := Lib.hid (hJ.out.apart (Nat.le_refl _))
  have bJ := Lib.hid (hJ.out.apart (Nat.le_succ _))
  rw [ew0] at hx hr hw hK1 hJ1
  have HX := Lib.hid hx
  have HB := Lib.hid hr
  have HW := Lib.hid hw
  have K := Lib.hid hK1
  have J := Lib.hid hJ1
  clear hx hr hw hwa hK1 hJ1
  have cx0 := HX.out.blk.cell 0
  go_enter Tryz.func48, Tryz.ntmps48
  go_wp2_with fail
  clear ew0 cx0
  have HC := Lib.hid (pf_ints M hM s A x.1.length c x.1 _ (Lib.hid HW.out.st) (Lib.hid K.out) (Lib.hid rfl) (HO.out.1).2 (Lib.hid (HO.out.1).1) KZ (Lib.hid (hM.mono HF.out (by omega))))
  have HF := Lib.hid (f_ints hM (HO.out.1).2 (getD_I64 (HO.out.1).1) (a := 10485800) (hM.mono HF.out (by omega)))
  generalize intsF M s x.1 = r at *
  obtain ⟨s1, y1⟩ := r
  rw [bnd_mk] at HR
  simp only at HC HF
  refine HC.out.mono ?_
  rintro e w1 ⟨A1, c1, rfl, l0, hs, hk⟩
  clear HC
  have K := Lib.hid (K.out.call hk)
  have J := Lib.hid (J.out.call hk)
  have L10 := Lib.hid (l0.mono HB.out.free.lt)
  clear l0
  have HX := Lib.hid (HX.out.call hk)
  have HB := Lib.hid (HB.out.call hk)
  have HW := Lib.hid (HW.out.call hs hk)
  clear hs hk
  have cx0 := HX.out.blk.cell 0
  have fx := HX.out.blk.frozen
  have cx1 := HX.out.blk.cell 1
  go_wp2_with fail
  obtain ⟨v1, ew⟩ : ∃ v1, w1.setCell ⟨w.heap.size, 0, none⟩ (.slice A1 y1.length c1) = v1 := ⟨_, rfl⟩
  have hO := (Only.set_ w1 w.heap.size 0 (.slice A1 y1.length c1))
  have hB : Blk (w1.setCell ⟨w.heap.size, 0, none⟩ (.slice A1 y1.length c1)) w.heap.size 36 #[.slice A1 y1.length c1, .slice B x.2.length d] := by have := (HX.out.blk.set_ 0 (.slice A1 y1.length c1)); simpa using this
  rw [ew] at hO hB ⊢
  have K := Lib.hid (K.out.only hM HW.out.st hO HX.out.free aK.out)
  have J := Lib.hid (J.out.only hM HW.out.st hO HX.out.free aJ.out)
  have L10 := Lib.hid (L10.out.only hM HW.out.st hO HX.out.free (by omega))
  have HB := Lib.hid (HB.out.only hM HW.out.st hO HX.out.free (by omega))
  have HX1 := Lib.hid (HX.out.turn hM HW.out.st hO hB)
  have HW := Lib.hid (HW.out.only hM HX.out hO)
  have HX := HX1
  clear HX1 ew hO hB fx cx0 cx1
  have HC := Lib.hid (pf_ints M hM s1 B x.2.length d x.2 _ (Lib.hid HW.out.st) (Lib.hid J.out) (Lib.hid rfl) (HO.out.2).2 (Lib.hid (HO.out.2).1) JZ (Lib.hid (hM.mono HF.out (by omega))))
  have HF := Lib.hid (f_ints hM (HO.out.2).2 (getD_I64 (HO.out.2).1) (a := 10) (hM.mono HF.out (by omega)))
  generalize intsF M s1 x.2 = r at *
  obtain ⟨s2, y2⟩ := r
  rw [bnd_mk] at HR
  simp only at HC HF
  refine HC.out.mono ?_
  rintro e w2 ⟨A2, c2, rfl, l0, hs, hk⟩
  clear HC
  have K := Lib.hid (K.out.call hk)
  have J := Lib.hid (J.out.call hk)
  have L10 := Lib.hid (L10.out.call hk)
  have L20 := Lib.hid (l0.mono HB.out.free.lt)
  clear l0
  have HX := Lib.hid (HX.out.call hk)
  have HB := Lib.hid (HB.out.call hk)
  have HW := Lib.hid (HW.out.call hs hk)
  clear hs hk
  have cx1 := HX.out.blk.cell 1
  have fx := HX.out.blk.frozen
  have hO := (Only.set_ w2 w.heap.size 1 (.slice A2 y2.length c2))
  have hB : Blk (w2.setCell ⟨w.heap.size, 1, none⟩ (.slice A2 y2.length c2)) w.heap.size 36 #[.slice A1 y1.length c1, .slice A2 y2.length c2] := by have := (HX.out.blk.set_ 1 (.slice A2 y2.length c2)); simpa using this
  have K := Lib.hid (K.out.only hM HW.out.st hO HX.out.free aK.out)
  have J := Lib.hid (J.out.only hM HW.out.st hO HX.out.free aJ.out)
  have L10 := Lib.hid (L10.out.only hM HW.out.st hO HX.out.free (by omega))
  have L20 := Lib.hid (L20.out.only hM HW.out.st hO HX.out.free (by omega))
  have HB := Lib.hid (HB.out.only hM HW.out.st hO HX.out.free (by omega))
  have HX1 := Lib.hid (HX.out.turn hM HW.out.st hO hB)
  have HW := Lib.hid (HW.out.only hM HX.out hO)
  have HX := HX1
  clear HX1 hO hB
  go_wp2_with (first | (refine wpl_load_blk rfl 36 (.tmp 3) rfl w.heap.size 36 _ _ rfl HX.out.blk Tryz.underlying36 rfl Tryz.sizeF ?_) | (refine wpl_store_blk rfl 36 (.tmp 4) (.tmp 15) rfl (w.heap.size + 1) 36 _ #[.slice A1 y1.length c1, .slice A2 y2.length c2] rfl rfl HB.out.blk rfl Tryz.sizeF rfl ?_; intro wf hB hO))
  have L10 := Lib.hid (L10.out.only hM HW.out.st hO.out HB.out.free (by omega))
  have L20 := Lib.hid (L20.out.only hM HW.out.st hO.out HB.out.free (by omega))
  have HW := Lib.hid (HW.out.only hM HB.out hO.out)
  refine bodyPost_ret (v := .agg #[.slice A1 y1.length c1, .slice A2 y2.length c2]) (res_c Tryz.results48 rfl (load_blk hB.out Tryz.underlying36 rfl Tryz.sizeF)) rfl ?_
  rw [HR.out]
  exact ⟨A1, c1, A2, c2, rfl, L10.out.mono (by omega), L20.out.mono (by omega), HW.out.st, HW.out.stp⟩
end Go.Proofs.YthgiafjiemiifaaGreat
end
section
namespace Go.Proofs.YthgiafjiemiifaaGreat
open Go.RowKit OctMath
set_option linter.unusedVariables false
def mcells (ms : List (Int × Int)) : List Value := ms.flatMap fun p => [iv p.1, iv p.2]
theorem mcells_append (a b : List (Int × Int)) : mcells (a ++ b) = mcells a ++ mcells b := by unfold mcells; rw [List.flatMap_append]
def MemOk (x : Int × Int) : Prop := (-9223372036854775808 ≤ x.1 ∧ x.1 ≤ 9223372036854775807) ∧ (-9223372036854775808 ≤ x.2 ∧ x.2 ≤ 9223372036854775807)
def vMem (x : Int × Int) (_ : World) (v : Value) : Prop := v = .agg #[.int .i64 x.1, .int .i64 x.2] ∧ MemOk x
def vMems (lo : Nat) (x : List (Int × Int)) (w : World) (v : Value) : Prop := ∃ A c, v = .slice A x.length c ∧ Lst lo 2 A c x.length (mcells x) w ∧ (∀ y ∈ x, MemOk y) ∧ x.length ≤ 1048576
theorem Tryz.infoMem : (Tryz.prog.info? 185).map (fun i => (i.zero, i.size, i.bytes)) = some (some (.agg #[.int .i64 0, .int .i64 0]), 2, 16) := by kernel_rfl
theorem Tryz.sizeMe : (Tryz.prog.info? 185).map (·.size) = some 2 := by kernel_rfl
set_option maxRecDepth 100000 in
set_option maxHeartbeats 4000000 in
theorem pg_member (g : Nat) (A : Option Addr) (n cap : Nat) (bs : List Nat) (p : Nat) (w : World) (hP : Hid (PG g A n cap bs p w)) (b : Nat) (HB : Hid (Blk w b 75 #[.pointer (some ⟨g, 0, none⟩)])) (hbg : Hid (b ≠ g)) :
    Calls Tryz.prog 104 #[.pointer (some ⟨b, 0, none⟩)] w (RetR (rMem bs p) vMem g A n cap bs w) := by
  have HR := Lib.hid (show rMem bs p = ((rInt bs).bind fun i => (rInt bs).bind fun w => Rd.pure (i, w)) p from rfl)
  obtain ⟨w0, ew0⟩ : ∃ w0, w.alloc (.cells #[.int .i64 0, .int .i64 0] 185) = w0 := ⟨_, rfl⟩
  have hs := (RS.start hP.out).alloc (.cells #[.int .i64 0, .int .i64 0] 185)
  have hx : Blk (w.alloc (.cells #[.int .i64 0, .int .i64 0] 185)) w.heap.size 185 #[.int .i64 0, .int .i64 0] := by have := Blk.new w 185 #[.int .i64 0, .int .i64 0]; simpa using this
  have hbb := HB.out.alloc (.cells #[.int .i64 0, .int .i64 0] 185)
  rw [ew0] at hs hx hbb
  have HB := Lib.hid hbb
  have cb := hbb.cell 0
  clear hbb
  have HS := Lib.hid hs
  have HX := Lib.hid hx
  have HG := Lib.hid hP.out.blk.lt
  clear hs hx
  go_enter Tryz.func104, Tryz.ntmps104
  go_wp2_with fail
  clear ew0 cb
  refine (pg_int g A n cap bs p _ (Lib.hid HS.out.pg)).mono ?_
  cases h1 : rInt bs p with
  | none =>
    rw [Rd.bind_none h1] at HR
    rintro e w1 ⟨rfl, hk⟩
    refine ⟨rfl, ?_⟩
    rw [HR.out]
    exact RetR.none_ (HS.out.kp.trans hk)
  | some x =>
    obtain ⟨x1, q1⟩ := x
    rw [Rd.bind_some h1] at HR
    rintro e w1 ⟨v, rfl, ⟨rfl, b1⟩, hp, hk⟩
    have HB := Lib.hid (hk.notBlk HB.out hbg.out)
    have cb := HB.out.cell 0
    have HX := Lib.hid (hk.notBlk HX.out (by have := HG.out; omega))
    have HS := Lib.hid (HS.out.read hp hk)
    clear hp hk
    go_wp2_with fail
    refine (pg_int g A n cap bs q1 _ (Lib.hid HS.out.pg)).mono ?_
    cases h2 : rInt bs q1 with
    | none =>
      rw [Rd.bind_none h2] at HR
      rintro e w2 ⟨rfl, hk⟩
      refine ⟨rfl, ?_⟩
      rw [HR.out]
      exact RetR.none_ (HS.out.kp.trans hk)
    | some x =>
      obtain ⟨x2, q2⟩ := x
      rw [Rd.bind_some h2] at HR
      rintro e w2 ⟨v, rfl, ⟨rfl, b2⟩, hp, hk⟩
      have HB := Lib.hid (hk.notBlk HB.out hbg.out)
      have cb := HB.out.cell 0
      have HX := Lib.hid (hk.notBlk HX.out (by have := HG.out; omega))
      have HS := Lib.hid (HS.out.read hp hk)
      clear hp hk
      go_wp2_with (refine wpl_store_blk rfl 185 (.tmp 1) (.tmp 8) rfl w.heap.size 185 _ #[.int .i64 x1, .int .i64 x2] rfl rfl HX.out rfl Tryz.sizeMe rfl ?_; intro wf hB hO)
      have HS := Lib.hid (HS.out.only hP.out (by omega) hO.out)
      refine bodyPost_ret (v := .agg #[.int .i64 x1, .int .i64 x2]) (res_c Tryz.results104 rfl (load_blk hB.out Tryz.underlying185 rfl Tryz.sizeMe)) rfl ?_
      rw [HR.out]
      exact RetR.some_ ⟨rfl, b1, b2⟩ HS.out.pg HS.out.kp
set_option maxRecDepth 100000 in
set_option maxHeartbeats 2000000 in
theorem pg_mems (g : Nat) (A : Option Addr) (n cap : Nat) (bs : List Nat) (p : Nat) (w : World) (hP : Hid (PG g A n cap bs p w)) (b : Nat) (HBX : Hid (Blk w b 75 #[.pointer (some ⟨g, 0, none⟩)])) (hbg : Hid (b ≠ g)) :
    Calls Tryz.prog 103 #[.pointer (some ⟨g, 0, none⟩), .func (.func 104) #[] #[.pointer (some ⟨b, 0, none⟩)]] w (RetR (rList bs (rMem bs) p) (vMems w.heap.size) g A n cap bs w) := by
  have HR := Lib.hid (show rList bs (rMem bs) p = (rNum bs).bind (fun n p => if 1048576 < n ∨ bs.length - p < n then none else rTimes (rMem bs) n p) p from rfl)
  have HC := Lib.hid (pg_number g A n cap bs p w hP)
  cases hq : rNum bs p with
  | none =>
    rw [hq] at HC
    rw [Rd.bind_none hq] at HR
    go_enter Tryz.func103, Tryz.ntmps103
    go_wp2_with (go_at_call 42; refine HC.out.mono ?_; rintro e w1 ⟨rfl, hk⟩; have HK := Lib.hid hk; clear hk)
    refine ⟨rfl, ?_⟩
    rw [HR.out]
    exact RetR.none_ HK.out
  | some x =>
    obtain ⟨m, p0⟩ := x
    rw [hq] at HC
    rw [Rd.bind_some hq] at HR
    have hlen := hP.out.len
    have hn9 := hP.out.reach
    rw [hlen] at HR
    by_cases hm : 1048576 < m
    · rw [if_pos (.inl hm)] at HR
      have d1 : decide ((m : Int) > 1048576) = true := decide_eq_true (by omega)
      have d2 : decide (1048576 < m) = true := decide_eq_true hm
      clear hlen hn9 hm
      go_enter Tryz.func103, Tryz.ntmps103
      go_wp2_with (go_at_call 42; refine HC.out.mono ?_; rintro e w1 ⟨v, rfl, ⟨rfl, hx⟩, hp1, hk⟩; have HP1 := Lib.hid hp1; have HK := Lib.hid hk; have c0 := hp1.blk.cell 0; have c1 := hp1.blk.cell 1; clear hp1 hk)
      go_region
      go_wp2
      refine ⟨rfl, ?_⟩
      rw [HR.out]
      exact RetR.none_ (HK.out.trans keep_drew)
    · have d1 : decide ((m : Int) > 1048576) = false := decide_eq_false (by omega)
      have d2 : decide (1048576 < m) = false := decide_eq_false hm
      have hm1 : m ≤ 1048576 := by omega
      clear hm
      have hp0 := rNum_le hP.out.byt hq
      rw [hlen] at hp0
      obtain ⟨d, ed⟩ : ∃ d, n - p0 = d := ⟨_, rfl⟩
      have e1 : IntKind.i64.wrap ((n : Int) - (p0 : Int)) = (d : Int) := by rw [IntKind.wrap_i64]; omega
      have e2 : IntKind.u64.wrap (d : Int) = (d : Int) := by rw [IntKind.wrap_u64]; omega
      have e3 : IntKind.u64.wrap ((n : Int) - (p0 : Int)) = (d : Int) := by rw [IntKind.wrap_u64]; omega
      rw [ed] at HR
      have hdn : d ≤ n := by omega
      clear ed hp0 hlen hn9
      by_cases hm2 : d < m
      · rw [if_pos (.inr hm2)] at HR
        have d3 : decide ((m : Int) > (d : Int)) = true := decide_eq_true (by omega)
        have d4 : decide (d < m) = true := decide_eq_true hm2
        clear hm1 hm2 hdn
        go_enter Tryz.func103, Tryz.ntmps103
        go_wp2_with (go_at_call 42; refine HC.out.mono ?_; rintro e w1 ⟨v, rfl, ⟨rfl, hx⟩, hp1, hk⟩; have HP1 := Lib.hid hp1; have HK := Lib.hid hk; have c0 := hp1.blk.cell 0; have c1 := hp1.blk.cell 1; clear hp1 hk)
        go_region
        go_wp2
        refine ⟨rfl, ?_⟩
        rw [HR.out]
        exact RetR.none_ (HK.out.trans keep_drew)
      · rw [if_neg (by omega)] at HR
        have d3 : decide ((m : Int) > (d : Int)) = false := decide_eq_false (by omega)
        have d4 : decide (d < m) = false := decide_eq_false hm2
        clear hdn hm2
        go_enter Tryz.func103, Tryz.ntmps103
        go_wp2_with (go_at_call 42; refine HC.out.mono ?_; rintro e w1 ⟨v, rfl, ⟨rfl, hx⟩, hp1, hk⟩; have HP1 := Lib.hid hp1; have HK := Lib.hid hk; have c0 := hp1.blk.cell 0; have c1 := hp1.blk.cell 1; clear hp1 hk)
        go_region
        clear c0 c1 e1 e2 e3 d3 d4
        go_wp2
        obtain ⟨w2, ew2⟩ : ∃ w2, w1.drew = w2 := ⟨_, rfl⟩
        have hp2 := HP1.out.drew
        have hk2 : Keep (Not g) w w1.drew := HK.out.trans keep_drew
        rw [ew2] at hp2 hk2 ⊢
        have HP2 := Lib.hid hp2
        have HK2 := Lib.hid hk2
        clear ew2 HP1 HK hp2 hk2 HC
        have HB := Lib.hid hP.out.byt
        have hg2 := Lib.hid HP2.out.blk.lt
        have hst0 := Lib.hid (LiR.start 185 2 HP2.out)
        have HBX := Lib.hid (HK2.out.notBlk HBX.out hbg.out)
        clear hP
        go_loopw [6, 29] (fun vo vi wr => ∃ (k q : Nat) (xs : List (Int × Int)), k ≤ m ∧ vi = .int .u64 k ∧ Hid (rTimes (rMem bs) k p0 = some (xs, q)) ∧ Hid (∀ x ∈ xs, MemOk x) ∧ Hid (LiR g A n cap bs w2 185 2 vo k (mcells xs) q wr)) (fun _ vi _ => m - (intOf vi).toNat)
        case atStart => exact ⟨0, p0, [], by omega, rfl, Lib.hid rfl, Lib.hid (fun x hx => by cases hx), hst0⟩
        case round =>
          obtain ⟨k, q, xs, hk, rfl, hT, hX, hst⟩ := hrel
          clear hst0
          by_cases hlt : k < m
          · have d3 : decide (k < m) = true := decide_eq_true hlt
            have HI := Lib.hid (pg_member g A n cap bs q wr (Lib.hid hst.out.pg) b (Lib.hid (hst.out.kp.notBlk HBX.out hbg.out)) hbg)
            cases hx1 : rMem bs q with
            | none =>
              rw [hx1] at HI
              have HN := Lib.hid (rTimes_none (rTimes_end hT.out hx1) (m := m) (by omega))
              go_wp2_with (go_at_call 104; refine HI.out.mono ?_; rintro e w3 ⟨rfl, hk3⟩; have HK3 := Lib.hid hk3; clear hk3)
              refine ⟨rfl, ?_⟩
              rw [HR.out, HN.out]
              exact RetR.none_ ((HK2.out.trans hst.out.kp).trans HK3.out)
            | some y =>
              obtain ⟨x, q'⟩ := y
              rw [hx1] at HI
              have HT1 := Lib.hid (rTimes_more hT.out hx1)
              obtain ⟨x, x2⟩ := x
              go_wp2_with (first
                | (go_at_call 104; refine HI.out.mono ?_; rintro e w3 ⟨v, rfl, ⟨rfl, hmo⟩, hp3, hk3⟩; have HX1 := Lib.hid hmo; have hst3 := Lib.hid (hst.out.read hg2.out hp3 hk3); clear hp3 hk3 hmo)
                | (at_builtin
                   refine wpl_li rfl _ _ 29 _ 16 Tryz.underlying29 Tryz.infoMem rfl (by decide) (by decide) rfl hst3.out HP2.out (by omega) [.int .i64 x, .int .i64 x2] rfl (by intro u hu; simp only [List.mem_cons, List.not_mem_nil, or_false] at hu; rcases hu with rfl | rfl <;> rfl) rfl rfl ?_
                   intro v4 w4 hst4))
              refine ⟨⟨k + 1, q', xs ++ [(x, x2)], by omega, by go_num, HT1, Lib.hid (fun y hy => ?_), ?_⟩, by simp [intOf]; omega⟩
              · rcases List.mem_append.1 hy with h | h
                · exact hX.out y h
                · rw [List.mem_singleton.1 h]; exact HX1.out
              · rw [mcells_append]; exact hst4
          · obtain rfl : k = m := by omega
            go_wp2
            go_ret
            rw [HR.out, hT.out]
            have hl := rTimes_len hT.out
            subst hl
            obtain ⟨A1, k1, rfl, hl1⟩ := hst.out.list HK2.out.size
            exact RetR.some_ ⟨A1, k1, rfl, hl1, hX.out, hm1⟩ hst.out.pg (HK2.out.trans hst.out.kp)
end Go.Proofs.YthgiafjiemiifaaGreat
end
