/-
  THE REFERENCE'S P, READING OR WRITING: names, heads, configurations. (printed by gen_paq5.py). (joined out of PaQ5 by shake.py)
-/
import Derived.Test.YtijdbdenmcjmmaaGreatDoorNen14
import Derived.Test.YtijdbdenmcjmmaaGreatDoorNen07
section
namespace Go.Proofs.YtijdbdenmcjmmaaGreatDoor
open Go.RowKit OctMath
set_option linter.unusedVariables false
variable {σ : Type}
def idCs (x : IdT) : Array Value := #[.int .u64 (x.ver : Int), .int .i64 x.idx, .int .u64 (x.ep : Int)]
theorem f_id {M : Md σ} (hM : MdOk M) {s : σ} {a : Nat} {x : IdT} (h : M.fit s (a + 30)) (HO : IdOk x) : M.fit (idF M s x).1 a := by
  show M.fit (bnd (M.u64 s x.ver) fun s1 y1 => bnd (M.int s1 x.idx) fun s2 y2 => bnd (M.u64 s2 x.ep) fun s3 y3 => (s3, ⟨y1, y2, y3⟩) : σ × (IdT)).1 a
  have h1 := hM.f_u64 (s := s) (x := x.ver) (a := a + 20) (hM.mono h (by omega)) HO.1
  generalize M.u64 s x.ver = r1 at *
  obtain ⟨s1, y1⟩ := r1
  rw [bnd_mk]
  have h2 := hM.f_int (s := s1) (x := x.idx) (a := a + 10) (hM.mono h1 (by omega)) HO.2.1
  generalize M.int s1 x.idx = r2 at *
  obtain ⟨s2, y2⟩ := r2
  rw [bnd_mk]
  have h3 := hM.f_u64 (s := s2) (x := x.ep) (a := a + 0) (hM.mono h2 (by omega)) HO.2.2
  generalize M.u64 s2 x.ep = r3 at *
  obtain ⟨s3, y3⟩ := r3
  rw [bnd_mk]
  exact hM.mono h3 (by omega)
set_option maxRecDepth 100000 in
set_option maxHeartbeats 4000000 in
theorem pf_id (M : Md σ) (hM : MdOk M) (s : σ) (x : IdT) (w : World) (hS : Hid (M.St s w))  (HO : IdOk x)  (hf : M.fit s 30) :
    Calls Tryz.prog 94 #[.pointer (some ⟨M.g, 0, none⟩), .agg #[.int .u64 (x.ver : Int), .int .i64 x.idx, .int .u64 (x.ep : Int)]] w (RetP M (idF M s x).1 (.agg (idCs (idF M s x).2)) w) := by
  have HR := Lh (show idF M s x = bnd (M.u64 s x.ver) fun s1 y1 => bnd (M.int s1 x.idx) fun s2 y2 => bnd (M.u64 s2 x.ep) fun s3 y3 => (s3, ⟨y1, y2, y3⟩) from rfl)
  have HF := Lh hf
  have HO := Lh HO
  obtain ⟨w0, ew0⟩ : ∃ w0, ((w.alloc (.cells #[.int .u64 (x.ver : Int), .int .i64 x.idx, .int .u64 (x.ep : Int)] 29)).alloc (.cells #[.int .u64 0, .int .i64 0, .int .u64 0] 29)) = w0 := ⟨_, rfl⟩
  have hwa := (Wk.start hS.out).alloc hM (.cells #[.int .u64 (x.ver : Int), .int .i64 x.idx, .int .u64 (x.ep : Int)] 29)
  have hx := (Bk.new hM (Wk.start hS.out) #[.int .u64 (x.ver : Int), .int .i64 x.idx, .int .u64 (x.ep : Int)] 29).alloc hM hwa.st (.cells #[.int .u64 0, .int .i64 0, .int .u64 0] 29)
  have hr : Bk M w (w.heap.size + 1) 29 #[.int .u64 0, .int .i64 0, .int .u64 0] ((w.alloc (.cells #[.int .u64 (x.ver : Int), .int .i64 x.idx, .int .u64 (x.ep : Int)] 29)).alloc (.cells #[.int .u64 0, .int .i64 0, .int .u64 0] 29)) := by have := Bk.new hM hwa #[.int .u64 0, .int .i64 0, .int .u64 0] 29; simpa using this
  have hw := hwa.alloc hM (.cells #[.int .u64 0, .int .i64 0, .int .u64 0] 29)
  rw [ew0] at hx hr hw
  have HX := Lh hx
  have HB := Lh hr
  have HW := Lh hw
  clear hx hr hw hwa
  have cx0 := HX.out.blk.cell 0
  go_enter Tryz.func94, Tryz.ntmps94
  go_wp2_with fail
  clear ew0 cx0
  have HC := Lh (hM.c_u64 s x.ver _ (Lh HW.out.st) HO.out.1 (hM.mono HF.out (by omega)))
  have HF := Lh (hM.f_u64 (s := s) (x := x.ver) (a := 20) (hM.mono HF.out (by omega)) HO.out.1)
  generalize M.u64 s x.ver = r at *
  obtain ⟨s1, y1⟩ := r
  rw [bnd_mk] at HR
  simp only at HC HF
  refine HC.out.mono ?_
  rintro e w1 ⟨rfl, hs, hk⟩
  clear HC
  have HX := Lh (HX.out.call hk)
  have HB := Lh (HB.out.call hk)
  have HW := Lh (HW.out.call hs hk)
  clear hs hk
  have cx0 := HX.out.blk.cell 0
  have fx := HX.out.blk.frozen
  have cx1 := HX.out.blk.cell 1
  go_wp2_with fail
  obtain ⟨v1, ew⟩ : ∃ v1, w1.setCell ⟨w.heap.size, 0, none⟩ (.int .u64 (y1 : Int)) = v1 := ⟨_, rfl⟩
  have hO := (Only.set_ w1 w.heap.size 0 (.int .u64 (y1 : Int)))
  have hB : Blk (w1.setCell ⟨w.heap.size, 0, none⟩ (.int .u64 (y1 : Int))) w.heap.size 29 #[.int .u64 (y1 : Int), .int .i64 x.idx, .int .u64 (x.ep : Int)] := by have := (HX.out.blk.set_ 0 (.int .u64 (y1 : Int))); simpa using this
  rw [ew] at hO hB ⊢
  have HB := Lh (HB.out.only hM HW.out.st hO HX.out.free (by omega))
  have HX1 := Lh (HX.out.turn hM HW.out.st hO hB)
  have HW := Lh (HW.out.only hM HX.out hO)
  have HX := HX1
  clear HX1 ew hO hB fx cx0 cx1
  have HC := Lh (hM.c_int s1 x.idx _ (Lh HW.out.st) HO.out.2.1 (hM.mono HF.out (by omega)))
  have HF := Lh (hM.f_int (s := s1) (x := x.idx) (a := 10) (hM.mono HF.out (by omega)) HO.out.2.1)
  generalize M.int s1 x.idx = r at *
  obtain ⟨s2, y2⟩ := r
  rw [bnd_mk] at HR
  simp only at HC HF
  refine HC.out.mono ?_
  rintro e w2 ⟨rfl, hs, hk⟩
  clear HC
  have HX := Lh (HX.out.call hk)
  have HB := Lh (HB.out.call hk)
  have HW := Lh (HW.out.call hs hk)
  clear hs hk
  have cx1 := HX.out.blk.cell 1
  have fx := HX.out.blk.frozen
  have cx2 := HX.out.blk.cell 2
  go_wp2_with fail
  obtain ⟨v2, ew⟩ : ∃ v2, w2.setCell ⟨w.heap.size, 1, none⟩ (.int .i64 y2) = v2 := ⟨_, rfl⟩
  have hO := (Only.set_ w2 w.heap.size 1 (.int .i64 y2))
  have hB : Blk (w2.setCell ⟨w.heap.size, 1, none⟩ (.int .i64 y2)) w.heap.size 29 #[.int .u64 (y1 : Int), .int .i64 y2, .int .u64 (x.ep : Int)] := by have := (HX.out.blk.set_ 1 (.int .i64 y2)); simpa using this
  rw [ew] at hO hB ⊢
  have HB := Lh (HB.out.only hM HW.out.st hO HX.out.free (by omega))
  have HX1 := Lh (HX.out.turn hM HW.out.st hO hB)
  have HW := Lh (HW.out.only hM HX.out hO)
  have HX := HX1
  clear HX1 ew hO hB fx cx1 cx2
  have HC := Lh (hM.c_u64 s2 x.ep _ (Lh HW.out.st) HO.out.2.2 (hM.mono HF.out (by omega)))
  have HF := Lh (hM.f_u64 (s := s2) (x := x.ep) (a := 0) (hM.mono HF.out (by omega)) HO.out.2.2)
  generalize M.u64 s2 x.ep = r at *
  obtain ⟨s3, y3⟩ := r
  rw [bnd_mk] at HR
  simp only at HC HF
  refine HC.out.mono ?_
  rintro e w3 ⟨rfl, hs, hk⟩
  clear HC
  have HX := Lh (HX.out.call hk)
  have HB := Lh (HB.out.call hk)
  have HW := Lh (HW.out.call hs hk)
  clear hs hk
  have cx2 := HX.out.blk.cell 2
  have fx := HX.out.blk.frozen
  have hO := (Only.set_ w3 w.heap.size 2 (.int .u64 (y3 : Int)))
  have hB : Blk (w3.setCell ⟨w.heap.size, 2, none⟩ (.int .u64 (y3 : Int))) w.heap.size 29 #[.int .u64 (y1 : Int), .int .i64 y2, .int .u64 (y3 : Int)] := by have := (HX.out.blk.set_ 2 (.int .u64 (y3 : Int))); simpa using this
  have HB := Lh (HB.out.only hM HW.out.st hO HX.out.free (by omega))
  have HX1 := Lh (HX.out.turn hM HW.out.st hO hB)
  have HW := Lh (HW.out.only hM HX.out hO)
  have HX := HX1
  clear HX1 hO hB
  go_wp2_with (first | (refine wpl_load_blk rfl 29 (.tmp 3) rfl w.heap.size 29 _ _ rfl HX.out.blk Tryz.underlying29 rfl Tryz.sizeI ?_) | (refine wpl_store_blk rfl 29 (.tmp 4) (.tmp 20) rfl (w.heap.size + 1) 29 _ #[.int .u64 (y1 : Int), .int .i64 y2, .int .u64 (y3 : Int)] rfl rfl HB.out.blk rfl Tryz.sizeI rfl ?_; intro wf hB hO))
  have HW := Lh (HW.out.only hM HB.out hO.out)
  refine bodyPost_ret (v := .agg #[.int .u64 (y1 : Int), .int .i64 y2, .int .u64 (y3 : Int)]) (res_c Tryz.results94 rfl (load_blk hB.out Tryz.underlying29 rfl Tryz.sizeI)) rfl ?_
  rw [HR.out]
  exact ⟨rfl, HW.out.st, HW.out.stp⟩
def hdCs (x : HdT) : Array Value := #[.int .u64 (x.id.ver : Int), .int .i64 x.id.idx, .int .u64 (x.id.ep : Int), .int .i64 x.k, .int .i64 x.n, .int .i64 x.size, .int .u32 (x.sum : Int)]
theorem HdOk.id_ {x : HdT} (h : HdOk x) : IdOk x.id := ⟨h.ver, h.idx, h.ep⟩
set_option maxRecDepth 100000 in
set_option maxHeartbeats 4000000 in
theorem pf_header (M : Md σ) (hM : MdOk M) (s : σ) (x : HdT) (w : World) (hS : Hid (M.St s w))  (HO : HdOk x)  (hf : M.fit s 70) :
    Calls Tryz.prog 64 #[.pointer (some ⟨M.g, 0, none⟩), .agg #[.int .u64 (x.id.ver : Int), .int .i64 x.id.idx, .int .u64 (x.id.ep : Int), .int .i64 x.k, .int .i64 x.n, .int .i64 x.size, .int .u32 (x.sum : Int)]] w (RetP M (hdF M s x).1 (.agg (hdCs (hdF M s x).2)) w) := by
  have HR := Lh (show hdF M s x = bnd (idF M s x.id) fun s1 y1 => bnd (M.int s1 x.k) fun s2 y2 => bnd (M.int s2 x.n) fun s3 y3 => bnd (M.int s3 x.size) fun s4 y4 => bnd (M.u32 s4 x.sum) fun s5 y5 => (s5, ⟨y1, y2, y3, y4, y5⟩) from rfl)
  have HF := Lh hf
  have HO := Lh HO
  obtain ⟨w0, ew0⟩ : ∃ w0, ((w.alloc (.cells #[.int .u64 (x.id.ver : Int), .int .i64 x.id.idx, .int .u64 (x.id.ep : Int), .int .i64 x.k, .int .i64 x.n, .int .i64 x.size, .int .u32 (x.sum : Int)] 32)).alloc (.cells #[.int .u64 0, .int .i64 0, .int .u64 0, .int .i64 0, .int .i64 0, .int .i64 0, .int .u32 0] 32)) = w0 := ⟨_, rfl⟩
  have hwa := (Wk.start hS.out).alloc hM (.cells #[.int .u64 (x.id.ver : Int), .int .i64 x.id.idx, .int .u64 (x.id.ep : Int), .int .i64 x.k, .int .i64 x.n, .int .i64 x.size, .int .u32 (x.sum : Int)] 32)
  have hx := (Bk.new hM (Wk.start hS.out) #[.int .u64 (x.id.ver : Int), .int .i64 x.id.idx, .int .u64 (x.id.ep : Int), .int .i64 x.k, .int .i64 x.n, .int .i64 x.size, .int .u32 (x.sum : Int)] 32).alloc hM hwa.st (.cells #[.int .u64 0, .int .i64 0, .int .u64 0, .int .i64 0, .int .i64 0, .int .i64 0, .int .u32 0] 32)
  have hr : Bk M w (w.heap.size + 1) 32 #[.int .u64 0, .int .i64 0, .int .u64 0, .int .i64 0, .int .i64 0, .int .i64 0, .int .u32 0] ((w.alloc (.cells #[.int .u64 (x.id.ver : Int), .int .i64 x.id.idx, .int .u64 (x.id.ep : Int), .int .i64 x.k, .int .i64 x.n, .int .i64 x.size, .int .u32 (x.sum : Int)] 32)).alloc (.cells #[.int .u64 0, .int .i64 0, .int .u64 0, .int .i64 0, .int .i64 0, .int .i64 0, .int .u32 0] 32)) := by have := Bk.new hM hwa #[.int .u64 0, .int .i64 0, .int .u64 0, .int .i64 0, .int .i64 0, .int .i64 0, .int .u32 0] 32; simpa using this
  have hw := hwa.alloc hM (.cells #[.int .u64 0, .int .i64 0, .int .u64 0, .int .i64 0, .int .i64 0, .int .i64 0, .int .u32 0] 32)
  rw [ew0] at hx hr hw
  have HX := Lh hx
  have HB := Lh hr
  have HW := Lh hw
  clear hx hr hw hwa
  have cx0 := HX.out.blk.cell 0
  have cx1 := HX.out.blk.cell 1
  have cx2 := HX.out.blk.cell 2
  go_enter Tryz.func64, Tryz.ntmps64
  go_wp2_with fail
  clear ew0 cx0 cx1 cx2
  have HC := Lh (pf_id M hM s x.id _ (Lh HW.out.st) HO.out.id_ (hM.mono HF.out (by omega)))
  have HF := Lh (f_id hM (a := 40) (hM.mono HF.out (by omega)) HO.out.id_)
  generalize idF M s x.id = r at *
  obtain ⟨s1, y1⟩ := r
  rw [bnd_mk] at HR
  simp only at HC HF
  refine HC.out.mono ?_
  rintro e w1 ⟨rfl, hs, hk⟩
  clear HC
  unfold idCs
  have HX := Lh (HX.out.call hk)
  have HB := Lh (HB.out.call hk)
  have HW := Lh (HW.out.call hs hk)
  clear hs hk
  have cx0 := HX.out.blk.cell 0
  have cx1 := HX.out.blk.cell 1
  have cx2 := HX.out.blk.cell 2
  have fx := HX.out.blk.frozen
  have cx3 := HX.out.blk.cell 3
  go_wp2_with fail
  obtain ⟨v1, ew⟩ : ∃ v1, ((w1.setCell ⟨w.heap.size, 0, none⟩ (.int .u64 (y1.ver : Int))).setCell ⟨w.heap.size, 1, none⟩ (.int .i64 y1.idx)).setCell ⟨w.heap.size, 2, none⟩ (.int .u64 (y1.ep : Int)) = v1 := ⟨_, rfl⟩
  have hO := (((Only.set_ w1 w.heap.size 0 (.int .u64 (y1.ver : Int))).trans (Only.set_ (w1.setCell ⟨w.heap.size, 0, none⟩ (.int .u64 (y1.ver : Int))) w.heap.size 1 (.int .i64 y1.idx))).trans (Only.set_ ((w1.setCell ⟨w.heap.size, 0, none⟩ (.int .u64 (y1.ver : Int))).setCell ⟨w.heap.size, 1, none⟩ (.int .i64 y1.idx)) w.heap.size 2 (.int .u64 (y1.ep : Int))))
  have hB : Blk (((w1.setCell ⟨w.heap.size, 0, none⟩ (.int .u64 (y1.ver : Int))).setCell ⟨w.heap.size, 1, none⟩ (.int .i64 y1.idx)).setCell ⟨w.heap.size, 2, none⟩ (.int .u64 (y1.ep : Int))) w.heap.size 32 #[.int .u64 (y1.ver : Int), .int .i64 y1.idx, .int .u64 (y1.ep : Int), .int .i64 x.k, .int .i64 x.n, .int .i64 x.size, .int .u32 (x.sum : Int)] := by have := (((HX.out.blk.set_ 0 (.int .u64 (y1.ver : Int))).set_ 1 (.int .i64 y1.idx)).set_ 2 (.int .u64 (y1.ep : Int))); simpa using this
  rw [ew] at hO hB ⊢
  have HB := Lh (HB.out.only hM HW.out.st hO HX.out.free (by omega))
  have HX1 := Lh (HX.out.turn hM HW.out.st hO hB)
  have HW := Lh (HW.out.only hM HX.out hO)
  have HX := HX1
  clear HX1 ew hO hB fx cx0 cx1 cx2 cx3
  have HC := Lh (hM.c_int s1 x.k _ (Lh HW.out.st) HO.out.k (hM.mono HF.out (by omega)))
  have HF := Lh (hM.f_int (s := s1) (x := x.k) (a := 30) (hM.mono HF.out (by omega)) HO.out.k)
  generalize M.int s1 x.k = r at *
  obtain ⟨s2, y2⟩ := r
  rw [bnd_mk] at HR
  simp only at HC HF
  refine HC.out.mono ?_
  rintro e w2 ⟨rfl, hs, hk⟩
  clear HC
  have HX := Lh (HX.out.call hk)
  have HB := Lh (HB.out.call hk)
  have HW := Lh (HW.out.call hs hk)
  clear hs hk
  have cx3 := HX.out.blk.cell 3
  have fx := HX.out.blk.frozen
  have cx4 := HX.out.blk.cell 4
  go_wp2_with fail
  obtain ⟨v2, ew⟩ : ∃ v2, w2.setCell ⟨w.heap.size, 3, none⟩ (.int .i64 y2) = v2 := ⟨_, rfl⟩
  have hO := (Only.set_ w2 w.heap.size 3 (.int .i64 y2))
  have hB : Blk (w2.setCell ⟨w.heap.size, 3, none⟩ (.int .i64 y2)) w.heap.size 32 #[.int .u64 (y1.ver : Int), .int .i64 y1.idx, .int .u64 (y1.ep : Int), .int .i64 y2, .int .i64 x.n, .int .i64 x.size, .int .u32 (x.sum : Int)] := by have := (HX.out.blk.set_ 3 (.int .i64 y2)); simpa using this
  rw [ew] at hO hB ⊢
  have HB := Lh (HB.out.only hM HW.out.st hO HX.out.free (by omega))
  have HX1 := Lh (HX.out.turn hM HW.out.st hO hB)
  have HW := Lh (HW.out.only hM HX.out hO)
  have HX := HX1
  clear HX1 ew hO hB fx cx3 cx4
  have HC := Lh (hM.c_int s2 x.n _ (Lh HW.out.st) HO.out.n (hM.mono HF.out (by omega)))
  have HF := Lh (hM.f_int (s := s2) (x := x.n) (a := 20) (hM.mono HF.out (by omega)) HO.out.n)
  generalize M.int s2 x.n = r at *
  obtain ⟨s3, y3⟩ := r
  rw [bnd_mk] at HR
  simp only at HC HF
  refine HC.out.mono ?_
  rintro e w3 ⟨rfl, hs, hk⟩
  clear HC
  have HX := Lh (HX.out.call hk)
  have HB := Lh (HB.out.call hk)
  have HW := Lh (HW.out.call hs hk)
  clear hs hk
  have cx4 := HX.out.blk.cell 4
  have fx := HX.out.blk.frozen
  have cx5 := HX.out.blk.cell 5
  go_wp2_with fail
  obtain ⟨v3, ew⟩ : ∃ v3, w3.setCell ⟨w.heap.size, 4, none⟩ (.int .i64 y3) = v3 := ⟨_, rfl⟩
  have hO := (Only.set_ w3 w.heap.size 4 (.int .i64 y3))
  have hB : Blk (w3.setCell ⟨w.heap.size, 4, none⟩ (.int .i64 y3)) w.heap.size 32 #[.int .u64 (y1.ver : Int), .int .i64 y1.idx, .int .u64 (y1.ep : Int), .int .i64 y2, .int .i64 y3, .int .i64 x.size, .int .u32 (x.sum : Int)] := by have := (HX.out.blk.set_ 4 (.int .i64 y3)); simpa using this
  rw [ew] at hO hB ⊢
  have HB := Lh (HB.out.only hM HW.out.st hO HX.out.free (by omega))
  have HX1 := Lh (HX.out.turn hM HW.out.st hO hB)
  have HW := Lh (HW.out.only hM HX.out hO)
  have HX := HX1
  clear HX1 ew hO hB fx cx4 cx5
  have HC := Lh (hM.c_int s3 x.size _ (Lh HW.out.st) HO.out.size (hM.mono HF.out (by omega)))
  have HF := Lh (hM.f_int (s := s3) (x := x.size) (a := 10) (hM.mono HF.out (by omega)) HO.out.size)
  generalize M.int s3 x.size = r at *
  obtain ⟨s4, y4⟩ := r
  rw [bnd_mk] at HR
  simp only at HC HF
  refine HC.out.mono ?_
  rintro e w4 ⟨rfl, hs, hk⟩
  clear HC
  have HX := Lh (HX.out.call hk)
  have HB := Lh (HB.out.call hk)
  have HW := Lh (HW.out.call hs hk)
  clear hs hk
  have cx5 := HX.out.blk.cell 5
  have fx := HX.out.blk.frozen
  have cx6 := HX.out.blk.cell 6
  go_wp2_with fail
  obtain ⟨v4, ew⟩ : ∃ v4, w4.setCell ⟨w.heap.size, 5, none⟩ (.int .i64 y4) = v4 := ⟨_, rfl⟩
  have hO := (Only.set_ w4 w.heap.size 5 (.int .i64 y4))
  have hB : Blk (w4.setCell ⟨w.heap.size, 5, none⟩ (.int .i64 y4)) w.heap.size 32 #[.int .u64 (y1.ver : Int), .int .i64 y1.idx, .int .u64 (y1.ep : Int), .int .i64 y2, .int .i64 y3, .int .i64 y4, .int .u32 (x.sum : Int)] := by have := (HX.out.blk.set_ 5 (.int .i64 y4)); simpa using this
  rw [ew] at hO hB ⊢
  have HB := Lh (HB.out.only hM HW.out.st hO HX.out.free (by omega))
  have HX1 := Lh (HX.out.turn hM HW.out.st hO hB)
  have HW := Lh (HW.out.only hM HX.out hO)
  have HX := HX1
  clear HX1 ew hO hB fx cx5 cx6
  have HC := Lh (hM.c_u32 s4 x.sum _ (Lh HW.out.st) HO.out.sum (hM.mono HF.out (by omega)))
  have HF := Lh (hM.f_u32 (s := s4) (x := x.sum) (a := 0) (hM.mono HF.out (by omega)) HO.out.sum)
  generalize M.u32 s4 x.sum = r at *
  obtain ⟨s5, y5⟩ := r
  rw [bnd_mk] at HR
  simp only at HC HF
  refine HC.out.mono ?_
  rintro e w5 ⟨rfl, hs, hk⟩
  clear HC
  have HX := Lh (HX.out.call hk)
  have HB := Lh (HB.out.call hk)
  have HW := Lh (HW.out.call hs hk)
  clear hs hk
  have cx6 := HX.out.blk.cell 6
  have fx := HX.out.blk.frozen
  have hO := (Only.set_ w5 w.heap.size 6 (.int .u32 (y5 : Int)))
  have hB : Blk (w5.setCell ⟨w.heap.size, 6, none⟩ (.int .u32 (y5 : Int))) w.heap.size 32 #[.int .u64 (y1.ver : Int), .int .i64 y1.idx, .int .u64 (y1.ep : Int), .int .i64 y2, .int .i64 y3, .int .i64 y4, .int .u32 (y5 : Int)] := by have := (HX.out.blk.set_ 6 (.int .u32 (y5 : Int))); simpa using this
  have HB := Lh (HB.out.only hM HW.out.st hO HX.out.free (by omega))
  have HX1 := Lh (HX.out.turn hM HW.out.st hO hB)
  have HW := Lh (HW.out.only hM HX.out hO)
  have HX := HX1
  clear HX1 hO hB
  go_wp2_with (first | (refine wpl_load_blk rfl 32 (.tmp 3) rfl w.heap.size 32 _ _ rfl HX.out.blk Tryz.underlying32 rfl Tryz.sizeH ?_) | (refine wpl_store_blk rfl 32 (.tmp 4) (.tmp 30) rfl (w.heap.size + 1) 32 _ #[.int .u64 (y1.ver : Int), .int .i64 y1.idx, .int .u64 (y1.ep : Int), .int .i64 y2, .int .i64 y3, .int .i64 y4, .int .u32 (y5 : Int)] rfl rfl HB.out.blk rfl Tryz.sizeH rfl ?_; intro wf hB hO))
  have HW := Lh (HW.out.only hM HB.out hO.out)
  refine bodyPost_ret (v := .agg #[.int .u64 (y1.ver : Int), .int .i64 y1.idx, .int .u64 (y1.ep : Int), .int .i64 y2, .int .i64 y3, .int .i64 y4, .int .u32 (y5 : Int)]) (res_c Tryz.results64 rfl (load_blk hB.out Tryz.underlying32 rfl Tryz.sizeH)) rfl ?_
  rw [HR.out]
  exact ⟨rfl, HW.out.st, HW.out.stp⟩
def RetCf (M : Md σ) (s' : σ) (y : List Int × List Int) (w : World) (e : Ending) (w' : World) : Prop :=
  ∃ A c B d, e = .returned (.agg #[.slice A y.1.length c, .slice B y.2.length d]) ∧ Lx M w.heap.size 1 A c y.1.length (y.1.map iv) w' ∧ Lx M w.heap.size 1 B d y.2.length (y.2.map iv) w' ∧ M.St s' w' ∧ Stp M w w'
theorem f_conf {M : Md σ} (hM : MdOk M) {s : σ} {a : Nat} {x : List Int × List Int} (HO : IntsOk x.1 ∧ IntsOk x.2) (h : M.fit s (a + 20971590)) : M.fit (confF M s x).1 a := by
  show M.fit (bnd (intsF M s x.1) fun s1 y1 => bnd (intsF M s1 x.2) fun s2 y2 => (s2, (y1, y2)) : σ × (List Int × List Int)).1 a
  have h1 := f_ints hM (HO.1).2 (getD_I64 (HO.1).1) (a := a + 10485800) (hM.mono h (by omega))
  generalize intsF M s x.1 = r1 at *
  obtain ⟨s1, y1⟩ := r1
  rw [bnd_mk]
  have h2 := f_ints hM (HO.2).2 (getD_I64 (HO.2).1) (a := a + 10) (hM.mono h1 (by omega))
  generalize intsF M s1 x.2 = r2 at *
  obtain ⟨s2, y2⟩ := r2
  rw [bnd_mk]
  exact hM.mono h2 (by omega)
set_option maxRecDepth 100000 in
set_option maxHeartbeats 4000000 in
theorem pf_conf (M : Md σ) (hM : MdOk M) (s : σ) (A : Option Addr) (c : Nat) (B : Option Addr) (d : Nat) (x : List Int × List Int) (w : World) (hS : Hid (M.St s w)) (hK : Hid (Ls M 1 A x.1.length (x.1.map iv) w)) (hJ : Hid (Ls M 1 B x.2.length (x.2.map iv) w)) (HO : IntsOk x.1 ∧ IntsOk x.2) (KZ : Hid (M.write = false → x.1 = [])) (JZ : Hid (M.write = false → x.2 = [])) (hf : Hid (M.fit s 20971590)) :
    Calls Tryz.prog 63 #[.pointer (some ⟨M.g, 0, none⟩), .agg #[.slice A x.1.length c, .slice B x.2.length d]] w (RetCf M (confF M s x).1 (confF M s x).2 w) := by
  have HR := Lh (show confF M s x = bnd (intsF M s x.1) fun s1 y1 => bnd (intsF M s1 x.2) fun s2 y2 => (s2, (y1, y2)) from rfl)
  have HF := Lh hf.out
  have HO := Lh HO
  obtain ⟨w0, ew0⟩ : ∃ w0, ((w.alloc (.cells #[.slice A x.1.length c, .slice B x.2.length d] 27)).alloc (.cells #[.slice none 0 0, .slice none 0 0] 27)) = w0 := ⟨_, rfl⟩
  have hwa := (Wk.start hS.out).alloc hM (.cells #[.slice A x.1.length c, .slice B x.2.length d] 27)
  have hx := (Bk.new hM (Wk.start hS.out) #[.slice A x.1.length c, .slice B x.2.length d] 27).alloc hM hwa.st (.cells #[.slice none 0 0, .slice none 0 0] 27)
  have hr : Bk M w (w.heap.size + 1) 27 #[.slice none 0 0, .slice none 0 0] ((w.alloc (.cells #[.slice A x.1.length c, .slice B x.2.length d] 27)).alloc (.cells #[.slice none 0 0, .slice none 0 0] 27)) := by have := Bk.new hM hwa #[.slice none 0 0, .slice none 0 0] 27; simpa using this
  have hw := hwa.alloc hM (.cells #[.slice none 0 0, .slice none 0 0] 27)
  have hK1 := (hK.out.alloc hM hS.out (.cells #[.slice A x.1.length c, .slice B x.2.length d] 27)).alloc hM hwa.st (.cells #[.slice none 0 0, .slice none 0 0] 27)
  have aK := Lh (hK.out.apart (Nat.le_refl _))
  have bK := Lh (hK.out.apart (Nat.le_succ _))
  have hJ1 := (hJ.out.alloc hM hS.out (.cells #[.slice A x.1.length c, .slice B x.2.length d] 27)).alloc hM hwa.st (.cells #[.slice none 0 0, .slice none 0 0] 27)
  have aJ := Lh (hJ.out.apart (Nat.le_refl _))
  have bJ := Lh (hJ.out.apart (Nat.le_succ _))
  rw [ew0] at hx hr hw hK1 hJ1
  have HX := Lh hx
  have HB := Lh hr
  have HW := Lh hw
  have K := Lh hK1
  have J := Lh hJ1
  clear hx hr hw hwa hK1 hJ1
  have cx0 := HX.out.blk.cell 0
  go_enter Tryz.func63, Tryz.ntmps63
  go_wp2_with fail
  clear ew0 cx0
  have HC := Lh (pf_ints M hM s A x.1.length c x.1 _ (Lh HW.out.st) (Lh K.out) (Lh rfl) (HO.out.1).2 (Lh (HO.out.1).1) KZ (Lh (hM.mono HF.out (by omega))))
  have HF := Lh (f_ints hM (HO.out.1).2 (getD_I64 (HO.out.1).1) (a := 10485800) (hM.mono HF.out (by omega)))
  generalize intsF M s x.1 = r at *
  obtain ⟨s1, y1⟩ := r
  rw [bnd_mk] at HR
  simp only at HC HF
  refine HC.out.mono ?_
  rintro e w1 ⟨A1, c1, rfl, l0, hs, hk⟩
  clear HC
  have K := Lh (K.out.call hk)
  have J := Lh (J.out.call hk)
  have L10 := Lh (l0.mono HB.out.free.lt)
  clear l0
  have HX := Lh (HX.out.call hk)
  have HB := Lh (HB.out.call hk)
  have HW := Lh (HW.out.call hs hk)
  clear hs hk
  have cx0 := HX.out.blk.cell 0
  have fx := HX.out.blk.frozen
  have cx1 := HX.out.blk.cell 1
  go_wp2_with fail
  obtain ⟨v1, ew⟩ : ∃ v1, w1.setCell ⟨w.heap.size, 0, none⟩ (.slice A1 y1.length c1) = v1 := ⟨_, rfl⟩
  have hO := (Only.set_ w1 w.heap.size 0 (.slice A1 y1.length c1))
  have hB : Blk (w1.setCell ⟨w.heap.size, 0, none⟩ (.slice A1 y1.length c1)) w.heap.size 27 #[.slice A1 y1.length c1, .slice B x.2.length d] := by have := (HX.out.blk.set_ 0 (.slice A1 y1.length c1)); simpa using this
  rw [ew] at hO hB ⊢
  have K := Lh (K.out.only hM HW.out.st hO HX.out.free aK.out)
  have J := Lh (J.out.only hM HW.out.st hO HX.out.free aJ.out)
  have L10 := Lh (L10.out.only hM HW.out.st hO HX.out.free (by omega))
  have HB := Lh (HB.out.only hM HW.out.st hO HX.out.free (by omega))
  have HX1 := Lh (HX.out.turn hM HW.out.st hO hB)
  have HW := Lh (HW.out.only hM HX.out hO)
  have HX := HX1
  clear HX1 ew hO hB fx cx0 cx1
  have HC := Lh (pf_ints M hM s1 B x.2.length d x.2 _ (Lh HW.out.st) (Lh J.out) (Lh rfl) (HO.out.2).2 (Lh (HO.out.2).1) JZ (Lh (hM.mono HF.out (by omega))))
  have HF := Lh (f_ints hM (HO.out.2).2 (getD_I64 (HO.out.2).1) (a := 10) (hM.mono HF.out (by omega)))
  generalize intsF M s1 x.2 = r at *
  obtain ⟨s2, y2⟩ := r
  rw [bnd_mk] at HR
  simp only at HC HF
  refine HC.out.mono ?_
  rintro e w2 ⟨A2, c2, rfl, l0, hs, hk⟩
  clear HC
  have K := Lh (K.out.call hk)
  have J := Lh (J.out.call hk)
  have L10 := Lh (L10.out.call hk)
  have L20 := Lh (l0.mono HB.out.free.lt)
  clear l0
  have HX := Lh (HX.out.call hk)
  have HB := Lh (HB.out.call hk)
  have HW := Lh (HW.out.call hs hk)
  clear hs hk
  have cx1 := HX.out.blk.cell 1
  have fx := HX.out.blk.frozen
  have hO := (Only.set_ w2 w.heap.size 1 (.slice A2 y2.length c2))
  have hB : Blk (w2.setCell ⟨w.heap.size, 1, none⟩ (.slice A2 y2.length c2)) w.heap.size 27 #[.slice A1 y1.length c1, .slice A2 y2.length c2] := by have := (HX.out.blk.set_ 1 (.slice A2 y2.length c2)); simpa using this
  have K := Lh (K.out.only hM HW.out.st hO HX.out.free aK.out)
  have J := Lh (J.out.only hM HW.out.st hO HX.out.free aJ.out)
  have L10 := Lh (L10.out.only hM HW.out.st hO HX.out.free (by omega))
  have L20 := Lh (L20.out.only hM HW.out.st hO HX.out.free (by omega))
  have HB := Lh (HB.out.only hM HW.out.st hO HX.out.free (by omega))
  have HX1 := Lh (HX.out.turn hM HW.out.st hO hB)
  have HW := Lh (HW.out.only hM HX.out hO)
  have HX := HX1
  clear HX1 hO hB
  go_wp2_with (first | (refine wpl_load_blk rfl 27 (.tmp 3) rfl w.heap.size 27 _ _ rfl HX.out.blk Tryz.underlying27 rfl Tryz.sizeF ?_) | (refine wpl_store_blk rfl 27 (.tmp 4) (.tmp 15) rfl (w.heap.size + 1) 27 _ #[.slice A1 y1.length c1, .slice A2 y2.length c2] rfl rfl HB.out.blk rfl Tryz.sizeF rfl ?_; intro wf hB hO))
  have L10 := Lh (L10.out.only hM HW.out.st hO.out HB.out.free (by omega))
  have L20 := Lh (L20.out.only hM HW.out.st hO.out HB.out.free (by omega))
  have HW := Lh (HW.out.only hM HB.out hO.out)
  refine bodyPost_ret (v := .agg #[.slice A1 y1.length c1, .slice A2 y2.length c2]) (res_c Tryz.results63 rfl (load_blk hB.out Tryz.underlying27 rfl Tryz.sizeF)) rfl ?_
  rw [HR.out]
  exact ⟨A1, c1, A2, c2, rfl, L10.out.mono (by omega), L20.out.mono (by omega), HW.out.st, HW.out.stp⟩
end Go.Proofs.YtijdbdenmcjmmaaGreatDoor
end
