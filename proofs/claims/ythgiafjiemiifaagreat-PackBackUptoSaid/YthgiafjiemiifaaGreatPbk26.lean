/-
  THE REFERENCE'S P, READING OR WRITING: objects. (printed by gen_paq13.py). (joined out of PaQ13 by shake.py)
-/
import Derived.Test.YthgiafjiemiifaaGreatPbk15
import Derived.Test.YthgiafjiemiifaaGreatPbk25
section
namespace Go.Proofs.YthgiafjiemiifaaGreat
open Go.RowKit OctMath
set_option linter.unusedVariables false
variable {σ : Type}
def objF (M : Md σ) (s : σ) (x : ObjT) : σ × ObjT := bnd (M.text s x.key) fun s1 y1 => bnd (M.u64 s1 x.version) fun s2 y2 => bnd (M.int s2 x.size) fun s3 y3 => bnd (M.u32 s3 x.sum) fun s4 y4 => bnd (M.int s4 x.group) fun s5 y5 => bnd (M.u64 s5 x.epoch) fun s6 y6 => bnd (intsF M s6 x.nodes) fun s7 y7 => (s7, ⟨y1, y2, y3, y4, y5, y6, y7⟩)
def RetOj (M : Md σ) (s' : σ) (y : ObjT) (w : World) (e : Ending) (w' : World) : Prop :=
  ∃ A c, e = .returned (.agg (objCs y A c)) ∧ Lx M w.heap.size 1 A c y.nodes.length (y.nodes.map iv) w' ∧ M.St s' w' ∧ Stp M w w'
theorem f_object {M : Md σ} (hM : MdOk M) {s : σ} {a : Nat} {x : ObjT} (HO : ObjOk x) (h : M.fit s (a + 11534500)) : M.fit (objF M s x).1 a := by
  show M.fit (bnd (M.text s x.key) fun s1 y1 => bnd (M.u64 s1 x.version) fun s2 y2 => bnd (M.int s2 x.size) fun s3 y3 => bnd (M.u32 s3 x.sum) fun s4 y4 => bnd (M.int s4 x.group) fun s5 y5 => bnd (M.u64 s5 x.epoch) fun s6 y6 => bnd (intsF M s6 x.nodes) fun s7 y7 => (s7, ⟨y1, y2, y3, y4, y5, y6, y7⟩) : σ × (ObjT)).1 a
  have h1 := hM.f_text (s := s) (x := x.key) (a := a + 10485914) (hM.mono h (by omega)) (HO.key).2
  generalize M.text s x.key = r1 at *
  obtain ⟨s1, y1⟩ := r1
  rw [bnd_mk]
  have h2 := hM.f_u64 (s := s1) (x := x.version) (a := a + 10485904) (hM.mono h1 (by omega)) HO.version
  generalize M.u64 s1 x.version = r2 at *
  obtain ⟨s2, y2⟩ := r2
  rw [bnd_mk]
  have h3 := hM.f_int (s := s2) (x := x.size) (a := a + 10485894) (hM.mono h2 (by omega)) HO.size
  generalize M.int s2 x.size = r3 at *
  obtain ⟨s3, y3⟩ := r3
  rw [bnd_mk]
  have h4 := hM.f_u32 (s := s3) (x := x.sum) (a := a + 10485884) (hM.mono h3 (by omega)) HO.sum
  generalize M.u32 s3 x.sum = r4 at *
  obtain ⟨s4, y4⟩ := r4
  rw [bnd_mk]
  have h5 := hM.f_int (s := s4) (x := x.group) (a := a + 10485874) (hM.mono h4 (by omega)) HO.group
  generalize M.int s4 x.group = r5 at *
  obtain ⟨s5, y5⟩ := r5
  rw [bnd_mk]
  have h6 := hM.f_u64 (s := s5) (x := x.epoch) (a := a + 10485864) (hM.mono h5 (by omega)) HO.epoch
  generalize M.u64 s5 x.epoch = r6 at *
  obtain ⟨s6, y6⟩ := r6
  rw [bnd_mk]
  have h7 := f_ints hM (HO.nodes).2 (getD_I64 (HO.nodes).1) (a := a + 74) (hM.mono h6 (by omega))
  generalize intsF M s6 x.nodes = r7 at *
  obtain ⟨s7, y7⟩ := r7
  rw [bnd_mk]
  exact hM.mono h7 (by omega)
set_option maxRecDepth 100000 in
set_option maxHeartbeats 4000000 in
theorem pf_object (M : Md σ) (hM : MdOk M) (s : σ) (A : Option Addr) (c : Nat) (x : ObjT) (w : World) (hS : Hid (M.St s w)) (hK : Hid (Ls M 1 A x.nodes.length (x.nodes.map iv) w)) (HO : ObjOk x) (KZ : Hid (M.write = false → x.nodes = [])) (hf : Hid (M.fit s 11534500)) :
    Calls Tryz.prog 106 #[.pointer (some ⟨M.g, 0, none⟩), .agg #[.string (strOf x.key), .int .u64 (x.version : Int), .int .i64 x.size, .int .u32 (x.sum : Int), .int .i64 x.group, .int .u64 (x.epoch : Int), .slice A x.nodes.length c]] w (RetOj M (objF M s x).1 (objF M s x).2 w) := by
  have HR := Lib.hid (show objF M s x = bnd (M.text s x.key) fun s1 y1 => bnd (M.u64 s1 x.version) fun s2 y2 => bnd (M.int s2 x.size) fun s3 y3 => bnd (M.u32 s3 x.sum) fun s4 y4 => bnd (M.int s4 x.group) fun s5 y5 => bnd (M.u64 s5 x.epoch) fun s6 y6 => bnd (intsF M s6 x.nodes) fun s7 y7 => (s7, ⟨y1, y2, y3, y4, y5, y6, y7⟩) from rfl)
  have HF := Lib.hid hf.out
  have HO := Lib.hid HO
  obtain ⟨w0, ew0⟩ : ∃ w0, ((w.alloc (.cells #[.string (strOf x.key), .int .u64 (x.version : Int), .int .i64 x.size, .int .u32 (x.sum : Int), .int .i64 x.group, .int .u64 (x.epoch : Int), .slice A x.nodes.length c] 63)).alloc (.cells #[.string ⟨#[]⟩, .int .u64 0, .int .i64 0, .int .u32 0, .int .i64 0, .int .u64 0, .slice none 0 0] 63)) = w0 := ⟨_, rfl⟩
  have hwa := (Wk.start hS.out).alloc hM (.cells #[.string (strOf x.key), .int .u64 (x.version : Int), .int .i64 x.size, .int .u32 (x.sum : Int), .int .i64 x.group, .int .u64 (x.epoch : Int), .slice A x.nodes.length c] 63)
  have hx := (Bk.new hM (Wk.start hS.out) #[.string (strOf x.key), .int .u64 (x.version : Int), .int .i64 x.size, .int .u32 (x.sum : Int), .int .i64 x.group, .int .u64 (x.epoch : Int), .slice A x.nodes.length c] 63).alloc hM hwa.st (.cells #[.string ⟨#[]⟩, .int .u64 0, .int .i64 0, .int .u32 0, .int .i64 0, .int .u64 0, .slice none 0 0] 63)
  have hr : Bk M w (w.heap.size + 1) 63 #[.string ⟨#[]⟩, .int .u64 0, .int .i64 0, .int .u32 0, .int .i64 0, .int .u64 0, .slice none 0 0] ((w.alloc (.cells #[.string (strOf x.key), .int .u64 (x.version : Int), .int .i64 x.size, .int .u32 (x.sum : Int), .int .i64 x.group, .int .u64 (x.epoch : Int), .slice A x.nodes.length c] 63)).alloc (.cells #[.string ⟨#[]⟩, .int .u64 0, .int .i64 0, .int .u32 0, .int .i64 0, .int .u64 0, .slice none 0 0] 63)) := by have := Bk.new hM hwa #[.string ⟨#[]⟩, .int .u64 0, .int .i64 0, .int .u32 0, .int .i64 0, .int .u64 0, .slice none 0 0] 63; simpa using this
  have hw := hwa.alloc hM (.cells #[.string ⟨#[]⟩, .int .u64 0, .int .i64 0, .int .u32 0, .int .i64 0, .int .u64 0, .slice none 0 0] 63)
  have hK1 := (hK.out.alloc hM hS.out (.cells #[.string (strOf x.key), .int .u64 (x.version : Int), .int .i64 x.size, .int .u32 (x.sum : Int), .int .i64 x.group, .int .u64 (x.epoch : Int), .slice A x.nodes.length c] 63)).alloc hM hwa.st (.cells #[.string ⟨#[]⟩, .int .u64 0, .int .i64 0, .int .u32 0, .int .i64 0, .int .u64 0, .slice none 0 0] 63)
  have aK := Lib.hid (hK.out.apart (Nat.le_refl _))
  have bK := Lib.hid (hK.out.apart (Nat.le_succ _))
  rw [ew0] at hx hr hw hK1
  have HX := Lib.hid hx
  have HB := Lib.hid hr
  have HW := Lib.hid hw
  have K := Lib.hid hK1
  clear hx hr hw hwa hK1
  have cx0 := HX.out.blk.cell 0
  go_enter Tryz.func106, Tryz.ntmps106
  go_wp2_with fail
  clear ew0 cx0
  have HC := Lib.hid (hM.c_text s x.key _ (Lib.hid HW.out.st) HO.out.key (hM.mono HF.out (by omega)))
  have HF := Lib.hid (hM.f_text (s := s) (x := x.key) (a := 10485914) (hM.mono HF.out (by omega)) (HO.out.key).2)
  generalize M.text s x.key = r at *
  obtain ⟨s1, y1⟩ := r
  rw [bnd_mk] at HR
  simp only at HC HF
  refine HC.out.mono ?_
  rintro e w1 ⟨rfl, hs, hk⟩
  clear HC
  have K := Lib.hid (K.out.call hk)
  have HX := Lib.hid (HX.out.call hk)
  have HB := Lib.hid (HB.out.call hk)
  have HW := Lib.hid (HW.out.call hs hk)
  clear hs hk
  have cx0 := HX.out.blk.cell 0
  have fx := HX.out.blk.frozen
  have cx1 := HX.out.blk.cell 1
  go_wp2_with fail
  obtain ⟨v1, ew⟩ : ∃ v1, w1.setCell ⟨w.heap.size, 0, none⟩ (.string (strOf y1)) = v1 := ⟨_, rfl⟩
  have hO := (Only.set_ w1 w.heap.size 0 (.string (strOf y1)))
  have hB : Blk (w1.setCell ⟨w.heap.size, 0, none⟩ (.string (strOf y1))) w.heap.size 63 #[.string (strOf y1), .int .u64 (x.version : Int), .int .i64 x.size, .int .u32 (x.sum : Int), .int .i64 x.group, .int .u64 (x.epoch : Int), .slice A x.nodes.length c] := by have := (HX.out.blk.set_ 0 (.string (strOf y1))); simpa using this
  rw [ew] at hO hB ⊢
  have K := Lib.hid (K.out.only hM HW.out.st hO HX.out.free aK.out)
  have HB := Lib.hid (HB.out.only hM HW.out.st hO HX.out.free (by omega))
  have HX1 := Lib.hid (HX.out.turn hM HW.out.st hO hB)
  have HW := Lib.hid (HW.out.only hM HX.out hO)
  have HX := HX1
  clear HX1 ew hO hB fx cx0 cx1
  have HC := Lib.hid (hM.c_u64 s1 x.version _ (Lib.hid HW.out.st) HO.out.version (hM.mono HF.out (by omega)))
  have HF := Lib.hid (hM.f_u64 (s := s1) (x := x.version) (a := 10485904) (hM.mono HF.out (by omega)) HO.out.version)
  generalize M.u64 s1 x.version = r at *
  obtain ⟨s2, y2⟩ := r
  rw [bnd_mk] at HR
  simp only at HC HF
  refine HC.out.mono ?_
  rintro e w2 ⟨rfl, hs, hk⟩
  clear HC
  have K := Lib.hid (K.out.call hk)
  have HX := Lib.hid (HX.out.call hk)
  have HB := Lib.hid (HB.out.call hk)
  have HW := Lib.hid (HW.out.call hs hk)
  clear hs hk
  have cx1 := HX.out.blk.cell 1
  have fx := HX.out.blk.frozen
  have cx2 := HX.out.blk.cell 2
  go_wp2_with fail
  obtain ⟨v2, ew⟩ : ∃ v2, w2.setCell ⟨w.heap.size, 1, none⟩ (.int .u64 (y2 : Int)) = v2 := ⟨_, rfl⟩
  have hO := (Only.set_ w2 w.heap.size 1 (.int .u64 (y2 : Int)))
  have hB : Blk (w2.setCell ⟨w.heap.size, 1, none⟩ (.int .u64 (y2 : Int))) w.heap.size 63 #[.string (strOf y1), .int .u64 (y2 : Int), .int .i64 x.size, .int .u32 (x.sum : Int), .int .i64 x.group, .int .u64 (x.epoch : Int), .slice A x.nodes.length c] := by have := (HX.out.blk.set_ 1 (.int .u64 (y2 : Int))); simpa using this
  rw [ew] at hO hB ⊢
  have K := Lib.hid (K.out.only hM HW.out.st hO HX.out.free aK.out)
  have HB := Lib.hid (HB.out.only hM HW.out.st hO HX.out.free (by omega))
  have HX1 := Lib.hid (HX.out.turn hM HW.out.st hO hB)
  have HW := Lib.hid (HW.out.only hM HX.out hO)
  have HX := HX1
  clear HX1 ew hO hB fx cx1 cx2
  have HC := Lib.hid (hM.c_int s2 x.size _ (Lib.hid HW.out.st) HO.out.size (hM.mono HF.out (by omega)))
  have HF := Lib.hid (hM.f_int (s := s2) (x := x.size) (a := 10485894) (hM.mono HF.out (by omega)) HO.out.size)
  generalize M.int s2 x.size = r at *
  obtain ⟨s3, y3⟩ := r
  rw [bnd_mk] at HR
  simp only at HC HF
  refine HC.out.mono ?_
  rintro e w3 ⟨rfl, hs, hk⟩
  clear HC
  have K := Lib.hid (K.out.call hk)
  have HX := Lib.hid (HX.out.call hk)
  have HB := Lib.hid (HB.out.call hk)
  have HW := Lib.hid (HW.out.call hs hk)
  clear hs hk
  have cx2 := HX.out.blk.cell 2
  have fx := HX.out.blk.frozen
  have cx3 := HX.out.blk.cell 3
  go_wp2_with fail
  obtain ⟨v3, ew⟩ : ∃ v3, w3.setCell ⟨w.heap.size, 2, none⟩ (.int .i64 y3) = v3 := ⟨_, rfl⟩
  have hO := (Only.set_ w3 w.heap.size 2 (.int .i64 y3))
  have hB : Blk (w3.setCell ⟨w.heap.size, 2, none⟩ (.int .i64 y3)) w.heap.size 63 #[.string (strOf y1), .int .u64 (y2 : Int), .int .i64 y3, .int .u32 (x.sum : Int), .int .i64 x.group, .int .u64 (x.epoch : Int), .slice A x.nodes.length c] := by have := (HX.out.blk.set_ 2 (.int .i64 y3)); simpa using this
  rw [ew] at hO hB ⊢
  have K := Lib.hid (K.out.only hM HW.out.st hO HX.out.free aK.out)
  have HB := Lib.hid (HB.out.only hM HW.out.st hO HX.out.free (by omega))
  have HX1 := Lib.hid (HX.out.turn hM HW.out.st hO hB)
  have HW := Lib.hid (HW.out.only hM HX.out hO)
  have HX := HX1
  clear HX1 ew hO hB fx cx2 cx3
  have HC := Lib.hid (hM.c_u32 s3 x.sum _ (Lib.hid HW.out.st) HO.out.sum (hM.mono HF.out (by omega)))
  have HF := Lib.hid (hM.f_u32 (s := s3) (x := x.sum) (a := 10485884) (hM.mono HF.out (by omega)) HO.out.sum)
  generalize M.u32 s3 x.sum = r at *
  obtain ⟨s4, y4⟩ := r
  rw [bnd_mk] at HR
  simp only at HC HF
  refine HC.out.mono ?_
  rintro e w4 ⟨rfl, hs, hk⟩
  clear HC
  have K := Lib.hid (K.out.call hk)
  have HX := Lib.hid (HX.out.call hk)
  have HB := Lib.hid (HB.out.call hk)
  have HW := Lib.hid (HW.out.call hs hk)
  clear hs hk
  have cx3 := HX.out.blk.cell 3
  have fx := HX.out.blk.frozen
  have cx4 := HX.out.blk.cell 4
  go_wp2_with fail
  obtain ⟨v4, ew⟩ : ∃ v4, w4.setCell ⟨w.heap.size, 3, none⟩ (.int .u32 (y4 : Int)) = v4 := ⟨_, rfl⟩
  have hO := (Only.set_ w4 w.heap.size 3 (.int .u32 (y4 : Int)))
  have hB : Blk (w4.setCell ⟨w.heap.size, 3, none⟩ (.int .u32 (y4 : Int))) w.heap.size 63 #[.string (strOf y1), .int .u64 (y2 : Int), .int .i64 y3, .int .u32 (y4 : Int), .int .i64 x.group, .int .u64 (x.epoch : Int), .slice A x.nodes.length c] := by have := (HX.out.blk.set_ 3 (.int .u32 (y4 : Int))); simpa using this
  rw [ew] at hO hB ⊢
  have K := Lib.hid (K.out.only hM HW.out.st hO HX.out.free aK.out)
  have HB := Lib.hid (HB.out.only hM HW.out.st hO HX.out.free (by omega))
  have HX1 := Lib.hid (HX.out.turn hM HW.out.st hO hB)
  have HW := Lib.hid (HW.out.only hM HX.out hO)
  have HX := HX1
  clear HX1 ew hO hB fx cx3 cx4
  have HC := Lib.hid (hM.c_int s4 x.group _ (Lib.hid HW.out.st) HO.out.group (hM.mono HF.out (by omega)))
  have HF := Lib.hid (hM.f_int (s := s4) (x := x.group) (a := 10485874) (hM.mono HF.out (by omega)) HO.out.group)
  generalize M.int s4 x.group = r at *
  obtain ⟨s5, y5⟩ := r
  rw [bnd_mk] at HR
  simp only at HC HF
  refine HC.out.mono ?_
  rintro e w5 ⟨rfl, hs, hk⟩
  clear HC
  have K := Lib.hid (K.out.call hk)
  have HX := Lib.hid (HX.out.call hk)
  have HB := Lib.hid (HB.out.call hk)
  have HW := Lib.hid (HW.out.call hs hk)
  clear hs hk
  have cx4 := HX.out.blk.cell 4
  have fx := HX.out.blk.frozen
  have cx5 := HX.out.blk.cell 5
  go_wp2_with fail
  obtain ⟨v5, ew⟩ : ∃ v5, w5.setCell ⟨w.heap.size, 4, none⟩ (.int .i64 y5) = v5 := ⟨_, rfl⟩
  have hO := (Only.set_ w5 w.heap.size 4 (.int .i64 y5))
  have hB : Blk (w5.setCell ⟨w.heap.size, 4, none⟩ (.int .i64 y5)) w.heap.size 63 #[.string (strOf y1), .int .u64 (y2 : Int), .int .i64 y3, .int .u32 (y4 : Int), .int .i64 y5, .int .u64 (x.epoch : Int), .slice A x.nodes.length c] := by have := (HX.out.blk.set_ 4 (.int .i64 y5)); simpa using this
  rw [ew] at hO hB ⊢
  have K := Lib.hid (K.out.only hM HW.out.st hO HX.out.free aK.out)
  have HB := Lib.hid (HB.out.only hM HW.out.st hO HX.out.free (by omega))
  have HX1 := Lib.hid (HX.out.turn hM HW.out.st hO hB)
  have HW := Lib.hid (HW.out.only hM HX.out hO)
  have HX := HX1
  clear HX1 ew hO hB fx cx4 cx5
  have HC := Lib.hid (hM.c_u64 s5 x.epoch _ (Lib.hid HW.out.st) HO.out.epoch (hM.mono HF.out (by omega)))
  have HF := Lib.hid (hM.f_u64 (s := s5) (x := x.epoch) (a := 10485864) (hM.mono HF.out (by omega)) HO.out.epoch)
  generalize M.u64 s5 x.epoch = r at *
  obtain ⟨s6, y6⟩ := r
  rw [bnd_mk] at HR
  simp only at HC HF
  refine HC.out.mono ?_
  rintro e w6 ⟨rfl, hs, hk⟩
  clear HC
  have K := Lib.hid (K.out.call hk)
  have HX := Lib.hid (HX.out.call hk)
  have HB := Lib.hid (HB.out.call hk)
  have HW := Lib.hid (HW.out.call hs hk)
  clear hs hk
  have cx5 := HX.out.blk.cell 5
  have fx := HX.out.blk.frozen
  have cx6 := HX.out.blk.cell 6
  go_wp2_with fail
  obtain ⟨v6, ew⟩ : ∃ v6, w6.setCell ⟨w.heap.size, 5, none⟩ (.int .u64 (y6 : Int)) = v6 := ⟨_, rfl⟩
  have hO := (Only.set_ w6 w.heap.size 5 (.int .u64 (y6 : Int)))
  have hB : Blk (w6.setCell ⟨w.heap.size, 5, none⟩ (.int .u64 (y6 : Int))) w.heap.size 63 #[.string (strOf y1), .int .u64 (y2 : Int), .int .i64 y3, .int .u32 (y4 : Int), .int .i64 y5, .int .u64 (y6 : Int), .slice A x.nodes.length c] := by have := (HX.out.blk.set_ 5 (.int .u64 (y6 : Int))); simpa using this
  rw [ew] at hO hB ⊢
  have K := Lib.hid (K.out.only hM HW.out.st hO HX.out.free aK.out)
  have HB := Lib.hid (HB.out.only hM HW.out.st hO HX.out.free (by omega))
  have HX1 := Lib.hid (HX.out.turn hM HW.out.st hO hB)
  have HW := Lib.hid (HW.out.only hM HX.out hO)
  have HX := HX1
  clear HX1 ew hO hB fx cx5 cx6
  have HC := Lib.hid (pf_ints M hM s6 A x.nodes.length c x.nodes _ (Lib.hid HW.out.st) (Lib.hid K.out) (Lib.hid rfl) (HO.out.nodes).2 (Lib.hid (HO.out.nodes).1) KZ (Lib.hid (hM.mono HF.out (by omega))))
  have HF := Lib.hid (f_ints hM (HO.out.nodes).2 (getD_I64 (HO.out.nodes).1) (a := 74) (hM.mono HF.out (by omega)))
  generalize intsF M s6 x.nodes = r at *
  obtain ⟨s7, y7⟩ := r
  rw [bnd_mk] at HR
  simp only at HC HF
  refine HC.out.mono ?_
  rintro e w7 ⟨A7, c7, rfl, l0, hs, hk⟩
  clear HC
  have K := Lib.hid (K.out.call hk)
  have L70 := Lib.hid (l0.mono HB.out.free.lt)
  clear l0
  have HX := Lib.hid (HX.out.call hk)
  have HB := Lib.hid (HB.out.call hk)
  have HW := Lib.hid (HW.out.call hs hk)
  clear hs hk
  have cx6 := HX.out.blk.cell 6
  have fx := HX.out.blk.frozen
  have hO := (Only.set_ w7 w.heap.size 6 (.slice A7 y7.length c7))
  have hB : Blk (w7.setCell ⟨w.heap.size, 6, none⟩ (.slice A7 y7.length c7)) w.heap.size 63 #[.string (strOf y1), .int .u64 (y2 : Int), .int .i64 y3, .int .u32 (y4 : Int), .int .i64 y5, .int .u64 (y6 : Int), .slice A7 y7.length c7] := by have := (HX.out.blk.set_ 6 (.slice A7 y7.length c7)); simpa using this
  have K := Lib.hid (K.out.only hM HW.out.st hO HX.out.free aK.out)
  have L70 := Lib.hid (L70.out.only hM HW.out.st hO HX.out.free (by omega))
  have HB := Lib.hid (HB.out.only hM HW.out.st hO HX.out.free (by omega))
  have HX1 := Lib.hid (HX.out.turn hM HW.out.st hO hB)
  have HW := Lib.hid (HW.out.only hM HX.out hO)
  have HX := HX1
  clear HX1 hO hB
  go_wp2_with (first | (refine wpl_load_blk rfl 63 (.tmp 3) rfl w.heap.size 63 _ _ rfl HX.out.blk Tryz.underlying63 rfl Tryz.sizeO ?_) | (refine wpl_store_blk rfl 63 (.tmp 4) (.tmp 40) rfl (w.heap.size + 1) 63 _ #[.string (strOf y1), .int .u64 (y2 : Int), .int .i64 y3, .int .u32 (y4 : Int), .int .i64 y5, .int .u64 (y6 : Int), .slice A7 y7.length c7] rfl rfl HB.out.blk rfl Tryz.sizeO rfl ?_; intro wf hB hO))
  have L70 := Lib.hid (L70.out.only hM HW.out.st hO.out HB.out.free (by omega))
  have HW := Lib.hid (HW.out.only hM HB.out hO.out)
  refine bodyPost_ret (v := .agg #[.string (strOf y1), .int .u64 (y2 : Int), .int .i64 y3, .int .u32 (y4 : Int), .int .i64 y5, .int .u64 (y6 : Int), .slice A7 y7.length c7]) (res_c Tryz.results106 rfl (load_blk hB.out Tryz.underlying63 rfl Tryz.sizeO)) rfl ?_
  rw [HR.out]
  exact ⟨A7, c7, rfl, L70.out.mono (by omega), HW.out.st, HW.out.stp⟩
end Go.Proofs.YthgiafjiemiifaaGreat
end
