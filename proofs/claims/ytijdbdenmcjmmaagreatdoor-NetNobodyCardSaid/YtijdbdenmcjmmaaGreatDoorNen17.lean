/-
  THE REFERENCE'S P, READING OR WRITING: commands, entries. (printed by gen_paq5.py). (joined out of PaQ7 by shake.py)
-/
import Derived.Test.YtijdbdenmcjmmaaGreatDoorNen16
import Derived.Test.YtijdbdenmcjmmaaGreatDoorNen10
section
namespace Go.Proofs.YtijdbdenmcjmmaaGreatDoor
open Go.RowKit OctMath
set_option linter.unusedVariables false
variable {σ : Type}
def RetCm (M : Md σ) (s' : σ) (y : CmdT) (w : World) (e : Ending) (w' : World) : Prop :=
  ∃ A c, e = .returned (.agg (cmdCs y A c)) ∧ Lx M w.heap.size 2 A c y.mem.length (mcells y.mem) w' ∧ M.St s' w' ∧ Stp M w w'
theorem CmdOk.map_ {x : CmdT} (h : CmdOk x) : MapOk (x.mep, x.mem) := h.map
theorem CmdOk.id_ {x : CmdT} (h : CmdOk x) : IdOk x.id := h.id
theorem f_cmd {M : Md σ} (hM : MdOk M) {s : σ} {a : Nat} {x : CmdT} (HO : CmdOk x) (h : M.fit s (a + 22020400)) : M.fit (cmdF M s x).1 a := by
  show M.fit (bnd (M.int s x.kind) fun s1 y1 => bnd (M.u64 s1 x.client) fun s2 y2 => bnd (M.u64 s2 x.seq) fun s3 y3 => bnd (M.text s3 x.key) fun s4 y4 => bnd (M.int s4 x.size) fun s5 y5 => bnd (M.u32 s5 x.sum) fun s6 y6 => bnd (M.u64 s6 x.version) fun s7 y7 => bnd (M.u64 s7 x.epoch) fun s8 y8 => bnd (M.int s8 x.group) fun s9 y9 => bnd (M.int s9 x.node) fun s10 y10 => bnd (M.flag s10 x.up) fun s11 y11 => bnd (idF M s11 x.id) fun s12 y12 => bnd (mapF M s12 (x.mep, x.mem)) fun s13 y13 => (s13, ⟨y1, y2, y3, y4, y5, y6, y7, y8, y9, y10, y11, y12, y13.1, y13.2⟩) : σ × (CmdT)).1 a
  have h1 := hM.f_int (s := s) (x := x.kind) (a := a + 22020390) (hM.mono h (by omega)) HO.kind
  generalize M.int s x.kind = r1 at *
  obtain ⟨s1, y1⟩ := r1
  rw [bnd_mk]
  have h2 := hM.f_u64 (s := s1) (x := x.client) (a := a + 22020380) (hM.mono h1 (by omega)) HO.client
  generalize M.u64 s1 x.client = r2 at *
  obtain ⟨s2, y2⟩ := r2
  rw [bnd_mk]
  have h3 := hM.f_u64 (s := s2) (x := x.seq) (a := a + 22020370) (hM.mono h2 (by omega)) HO.seq
  generalize M.u64 s2 x.seq = r3 at *
  obtain ⟨s3, y3⟩ := r3
  rw [bnd_mk]
  have h4 := hM.f_text (s := s3) (x := x.key) (a := a + 20971784) (hM.mono h3 (by omega)) (HO.key).2
  generalize M.text s3 x.key = r4 at *
  obtain ⟨s4, y4⟩ := r4
  rw [bnd_mk]
  have h5 := hM.f_int (s := s4) (x := x.size) (a := a + 20971774) (hM.mono h4 (by omega)) HO.size
  generalize M.int s4 x.size = r5 at *
  obtain ⟨s5, y5⟩ := r5
  rw [bnd_mk]
  have h6 := hM.f_u32 (s := s5) (x := x.sum) (a := a + 20971764) (hM.mono h5 (by omega)) HO.sum
  generalize M.u32 s5 x.sum = r6 at *
  obtain ⟨s6, y6⟩ := r6
  rw [bnd_mk]
  have h7 := hM.f_u64 (s := s6) (x := x.version) (a := a + 20971754) (hM.mono h6 (by omega)) HO.version
  generalize M.u64 s6 x.version = r7 at *
  obtain ⟨s7, y7⟩ := r7
  rw [bnd_mk]
  have h8 := hM.f_u64 (s := s7) (x := x.epoch) (a := a + 20971744) (hM.mono h7 (by omega)) HO.epoch
  generalize M.u64 s7 x.epoch = r8 at *
  obtain ⟨s8, y8⟩ := r8
  rw [bnd_mk]
  have h9 := hM.f_int (s := s8) (x := x.group) (a := a + 20971734) (hM.mono h8 (by omega)) HO.group
  generalize M.int s8 x.group = r9 at *
  obtain ⟨s9, y9⟩ := r9
  rw [bnd_mk]
  have h10 := hM.f_int (s := s9) (x := x.node) (a := a + 20971724) (hM.mono h9 (by omega)) HO.node
  generalize M.int s9 x.node = r10 at *
  obtain ⟨s10, y10⟩ := r10
  rw [bnd_mk]
  have h11 := hM.f_flag (s := s10) (x := x.up) (a := a + 20971714) (hM.mono h10 (by omega))
  generalize M.flag s10 x.up = r11 at *
  obtain ⟨s11, y11⟩ := r11
  rw [bnd_mk]
  have h12 := f_id hM (a := a + 20971684) (hM.mono h11 (by omega)) HO.id_
  generalize idF M s11 x.id = r12 at *
  obtain ⟨s12, y12⟩ := r12
  rw [bnd_mk]
  have h13 := f_map hM (x := (x.mep, x.mem)) HO.map_ (a := a + 134) (hM.mono h12 (by omega))
  generalize mapF M s12 (x.mep, x.mem) = r13 at *
  obtain ⟨s13, y13⟩ := r13
  rw [bnd_mk]
  exact hM.mono h13 (by omega)
set_option maxRecDepth 100000 in
set_option maxHeartbeats 4000000 in
theorem pf_cmd (M : Md σ) (hM : MdOk M) (s : σ) (A : Option Addr) (c : Nat) (x : CmdT) (w : World) (hS : Hid (M.St s w)) (hK : Hid (Ls M 2 A x.mem.length (mcells x.mem) w)) (HO : CmdOk x) (KZ : Hid (M.write = false → x.mem = [])) (hf : Hid (M.fit s 22020400)) :
    Calls Tryz.prog 109 #[.pointer (some ⟨M.g, 0, none⟩), .agg #[.int .i64 x.kind, .int .u64 (x.client : Int), .int .u64 (x.seq : Int), .string (strOf x.key), .int .i64 x.size, .int .u32 (x.sum : Int), .int .u64 (x.version : Int), .int .u64 (x.epoch : Int), .int .i64 x.group, .int .i64 x.node, .bool x.up, .int .u64 (x.id.ver : Int), .int .i64 x.id.idx, .int .u64 (x.id.ep : Int), .int .u64 (x.mep : Int), .slice A x.mem.length c]] w (RetCm M (cmdF M s x).1 (cmdF M s x).2 w) := by
  have HR := Lh (show cmdF M s x = bnd (M.int s x.kind) fun s1 y1 => bnd (M.u64 s1 x.client) fun s2 y2 => bnd (M.u64 s2 x.seq) fun s3 y3 => bnd (M.text s3 x.key) fun s4 y4 => bnd (M.int s4 x.size) fun s5 y5 => bnd (M.u32 s5 x.sum) fun s6 y6 => bnd (M.u64 s6 x.version) fun s7 y7 => bnd (M.u64 s7 x.epoch) fun s8 y8 => bnd (M.int s8 x.group) fun s9 y9 => bnd (M.int s9 x.node) fun s10 y10 => bnd (M.flag s10 x.up) fun s11 y11 => bnd (idF M s11 x.id) fun s12 y12 => bnd (mapF M s12 (x.mep, x.mem)) fun s13 y13 => (s13, ⟨y1, y2, y3, y4, y5, y6, y7, y8, y9, y10, y11, y12, y13.1, y13.2⟩) from rfl)
  have HF := Lh hf.out
  have HO := Lh HO
  obtain ⟨w0, ew0⟩ : ∃ w0, ((w.alloc (.cells #[.int .i64 x.kind, .int .u64 (x.client : Int), .int .u64 (x.seq : Int), .string (strOf x.key), .int .i64 x.size, .int .u32 (x.sum : Int), .int .u64 (x.version : Int), .int .u64 (x.epoch : Int), .int .i64 x.group, .int .i64 x.node, .bool x.up, .int .u64 (x.id.ver : Int), .int .i64 x.id.idx, .int .u64 (x.id.ep : Int), .int .u64 (x.mep : Int), .slice A x.mem.length c] 84)).alloc (.cells #[.int .i64 0, .int .u64 0, .int .u64 0, .string ⟨#[]⟩, .int .i64 0, .int .u32 0, .int .u64 0, .int .u64 0, .int .i64 0, .int .i64 0, .bool false, .int .u64 0, .int .i64 0, .int .u64 0, .int .u64 0, .slice none 0 0] 84)) = w0 := ⟨_, rfl⟩
  have hwa := (Wk.start hS.out).alloc hM (.cells #[.int .i64 x.kind, .int .u64 (x.client : Int), .int .u64 (x.seq : Int), .string (strOf x.key), .int .i64 x.size, .int .u32 (x.sum : Int), .int .u64 (x.version : Int), .int .u64 (x.epoch : Int), .int .i64 x.group, .int .i64 x.node, .bool x.up, .int .u64 (x.id.ver : Int), .int .i64 x.id.idx, .int .u64 (x.id.ep : Int), .int .u64 (x.mep : Int), .slice A x.mem.length c] 84)
  have hx := (Bk.new hM (Wk.start hS.out) #[.int .i64 x.kind, .int .u64 (x.client : Int), .int .u64 (x.seq : Int), .string (strOf x.key), .int .i64 x.size, .int .u32 (x.sum : Int), .int .u64 (x.version : Int), .int .u64 (x.epoch : Int), .int .i64 x.group, .int .i64 x.node, .bool x.up, .int .u64 (x.id.ver : Int), .int .i64 x.id.idx, .int .u64 (x.id.ep : Int), .int .u64 (x.mep : Int), .slice A x.mem.length c] 84).alloc hM hwa.st (.cells #[.int .i64 0, .int .u64 0, .int .u64 0, .string ⟨#[]⟩, .int .i64 0, .int .u32 0, .int .u64 0, .int .u64 0, .int .i64 0, .int .i64 0, .bool false, .int .u64 0, .int .i64 0, .int .u64 0, .int .u64 0, .slice none 0 0] 84)
  have hr : Bk M w (w.heap.size + 1) 84 #[.int .i64 0, .int .u64 0, .int .u64 0, .string ⟨#[]⟩, .int .i64 0, .int .u32 0, .int .u64 0, .int .u64 0, .int .i64 0, .int .i64 0, .bool false, .int .u64 0, .int .i64 0, .int .u64 0, .int .u64 0, .slice none 0 0] ((w.alloc (.cells #[.int .i64 x.kind, .int .u64 (x.client : Int), .int .u64 (x.seq : Int), .string (strOf x.key), .int .i64 x.size, .int .u32 (x.sum : Int), .int .u64 (x.version : Int), .int .u64 (x.epoch : Int), .int .i64 x.group, .int .i64 x.node, .bool x.up, .int .u64 (x.id.ver : Int), .int .i64 x.id.idx, .int .u64 (x.id.ep : Int), .int .u64 (x.mep : Int), .slice A x.mem.length c] 84)).alloc (.cells #[.int .i64 0, .int .u64 0, .int .u64 0, .string ⟨#[]⟩, .int .i64 0, .int .u32 0, .int .u64 0, .int .u64 0, .int .i64 0, .int .i64 0, .bool false, .int .u64 0, .int .i64 0, .int .u64 0, .int .u64 0, .slice none 0 0] 84)) := by have := Bk.new hM hwa #[.int .i64 0, .int .u64 0, .int .u64 0, .string ⟨#[]⟩, .int .i64 0, .int .u32 0, .int .u64 0, .int .u64 0, .int .i64 0, .int .i64 0, .bool false, .int .u64 0, .int .i64 0, .int .u64 0, .int .u64 0, .slice none 0 0] 84; simpa using this
  have hw := hwa.alloc hM (.cells #[.int .i64 0, .int .u64 0, .int .u64 0, .string ⟨#[]⟩, .int .i64 0, .int .u32 0, .int .u64 0, .int .u64 0, .int .i64 0, .int .i64 0, .bool false, .int .u64 0, .int .i64 0, .int .u64 0, .int .u64 0, .slice none 0 0] 84)
  have hK1 := (hK.out.alloc hM hS.out (.cells #[.int .i64 x.kind, .int .u64 (x.client : Int), .int .u64 (x.seq : Int), .string (strOf x.key), .int .i64 x.size, .int .u32 (x.sum : Int), .int .u64 (x.version : Int), .int .u64 (x.epoch : Int), .int .i64 x.group, .int .i64 x.node, .bool x.up, .int .u64 (x.id.ver : Int), .int .i64 x.id.idx, .int .u64 (x.id.ep : Int), .int .u64 (x.mep : Int), .slice A x.mem.length c] 84)).alloc hM hwa.st (.cells #[.int .i64 0, .int .u64 0, .int .u64 0, .string ⟨#[]⟩, .int .i64 0, .int .u32 0, .int .u64 0, .int .u64 0, .int .i64 0, .int .i64 0, .bool false, .int .u64 0, .int .i64 0, .int .u64 0, .int .u64 0, .slice none 0 0] 84)
  have aK := Lh (hK.out.apart (Nat.le_refl _))
  have bK := Lh (hK.out.apart (Nat.le_succ _))
  rw [ew0] at hx hr hw hK1
  have HX := Lh hx
  have HB := Lh hr
  have HW := Lh hw
  have K := Lh hK1
  clear hx hr hw hwa hK1
  have cx0 := HX.out.blk.cell 0
  go_enter Tryz.func109, Tryz.ntmps109
  go_wp2_with fail
  clear ew0 cx0
  have HC := Lh (hM.c_int s x.kind _ (Lh HW.out.st) HO.out.kind (hM.mono HF.out (by omega)))
  have HF := Lh (hM.f_int (s := s) (x := x.kind) (a := 22020390) (hM.mono HF.out (by omega)) HO.out.kind)
  generalize M.int s x.kind = r at *
  obtain ⟨s1, y1⟩ := r
  rw [bnd_mk] at HR
  simp only at HC HF
  refine HC.out.mono ?_
  rintro e w1 ⟨rfl, hs, hk⟩
  clear HC
  have K := Lh (K.out.call hk)
  have HX := Lh (HX.out.call hk)
  have HB := Lh (HB.out.call hk)
  have HW := Lh (HW.out.call hs hk)
  clear hs hk
  have cx0 := HX.out.blk.cell 0
  have fx := HX.out.blk.frozen
  have cx1 := HX.out.blk.cell 1
  go_wp2_with fail
  obtain ⟨v1, ew⟩ : ∃ v1, w1.setCell ⟨w.heap.size, 0, none⟩ (.int .i64 y1) = v1 := ⟨_, rfl⟩
  have hO := (Only.set_ w1 w.heap.size 0 (.int .i64 y1))
  have hB : Blk (w1.setCell ⟨w.heap.size, 0, none⟩ (.int .i64 y1)) w.heap.size 84 #[.int .i64 y1, .int .u64 (x.client : Int), .int .u64 (x.seq : Int), .string (strOf x.key), .int .i64 x.size, .int .u32 (x.sum : Int), .int .u64 (x.version : Int), .int .u64 (x.epoch : Int), .int .i64 x.group, .int .i64 x.node, .bool x.up, .int .u64 (x.id.ver : Int), .int .i64 x.id.idx, .int .u64 (x.id.ep : Int), .int .u64 (x.mep : Int), .slice A x.mem.length c] := by have := (HX.out.blk.set_ 0 (.int .i64 y1)); simpa using this
  rw [ew] at hO hB ⊢
  have K := Lh (K.out.only hM HW.out.st hO HX.out.free aK.out)
  have HB := Lh (HB.out.only hM HW.out.st hO HX.out.free (by omega))
  have HX1 := Lh (HX.out.turn hM HW.out.st hO hB)
  have HW := Lh (HW.out.only hM HX.out hO)
  have HX := HX1
  clear HX1 ew hO hB fx cx0 cx1
  have HC := Lh (hM.c_u64 s1 x.client _ (Lh HW.out.st) HO.out.client (hM.mono HF.out (by omega)))
  have HF := Lh (hM.f_u64 (s := s1) (x := x.client) (a := 22020380) (hM.mono HF.out (by omega)) HO.out.client)
  generalize M.u64 s1 x.client = r at *
  obtain ⟨s2, y2⟩ := r
  rw [bnd_mk] at HR
  simp only at HC HF
  refine HC.out.mono ?_
  rintro e w2 ⟨rfl, hs, hk⟩
  clear HC
  have K := Lh (K.out.call hk)
  have HX := Lh (HX.out.call hk)
  have HB := Lh (HB.out.call hk)
  have HW := Lh (HW.out.call hs hk)
  clear hs hk
  have cx1 := HX.out.blk.cell 1
  have fx := HX.out.blk.frozen
  have cx2 := HX.out.blk.cell 2
  go_wp2_with fail
  obtain ⟨v2, ew⟩ : ∃ v2, w2.setCell ⟨w.heap.size, 1, none⟩ (.int .u64 (y2 : Int)) = v2 := ⟨_, rfl⟩
  have hO := (Only.set_ w2 w.heap.size 1 (.int .u64 (y2 : Int)))
  have hB : Blk (w2.setCell ⟨w.heap.size, 1, none⟩ (.int .u64 (y2 : Int))) w.heap.size 84 #[.int .i64 y1, .int .u64 (y2 : Int), .int .u64 (x.seq : Int), .string (strOf x.key), .int .i64 x.size, .int .u32 (x.sum : Int), .int .u64 (x.version : Int), .int .u64 (x.epoch : Int), .int .i64 x.group, .int .i64 x.node, .bool x.up, .int .u64 (x.id.ver : Int), .int .i64 x.id.idx, .int .u64 (x.id.ep : Int), .int .u64 (x.mep : Int), .slice A x.mem.length c] := by have := (HX.out.blk.set_ 1 (.int .u64 (y2 : Int))); simpa using this
  rw [ew] at hO hB ⊢
  have K := Lh (K.out.only hM HW.out.st hO HX.out.free aK.out)
  have HB := Lh (HB.out.only hM HW.out.st hO HX.out.free (by omega))
  have HX1 := Lh (HX.out.turn hM HW.out.st hO hB)
  have HW := Lh (HW.out.only hM HX.out hO)
  have HX := HX1
  clear HX1 ew hO hB fx cx1 cx2
  have HC := Lh (hM.c_u64 s2 x.seq _ (Lh HW.out.st) HO.out.seq (hM.mono HF.out (by omega)))
  have HF := Lh (hM.f_u64 (s := s2) (x := x.seq) (a := 22020370) (hM.mono HF.out (by omega)) HO.out.seq)
  generalize M.u64 s2 x.seq = r at *
  obtain ⟨s3, y3⟩ := r
  rw [bnd_mk] at HR
  simp only at HC HF
  refine HC.out.mono ?_
  rintro e w3 ⟨rfl, hs, hk⟩
  clear HC
  have K := Lh (K.out.call hk)
  have HX := Lh (HX.out.call hk)
  have HB := Lh (HB.out.call hk)
  have HW := Lh (HW.out.call hs hk)
  clear hs hk
  have cx2 := HX.out.blk.cell 2
  have fx := HX.out.blk.frozen
  have cx3 := HX.out.blk.cell 3
  go_wp2_with fail
  obtain ⟨v3, ew⟩ : ∃ v3, w3.setCell ⟨w.heap.size, 2, none⟩ (.int .u64 (y3 : Int)) = v3 := ⟨_, rfl⟩
  have hO := (Only.set_ w3 w.heap.size 2 (.int .u64 (y3 : Int)))
  have hB : Blk (w3.setCell ⟨w.heap.size, 2, none⟩ (.int .u64 (y3 : Int))) w.heap.size 84 #[.int .i64 y1, .int .u64 (y2 : Int), .int .u64 (y3 : Int), .string (strOf x.key), .int .i64 x.size, .int .u32 (x.sum : Int), .int .u64 (x.version : Int), .int .u64 (x.epoch : Int), .int .i64 x.group, .int .i64 x.node, .bool x.up, .int .u64 (x.id.ver : Int), .int .i64 x.id.idx, .int .u64 (x.id.ep : Int), .int .u64 (x.mep : Int), .slice A x.mem.length c] := by have := (HX.out.blk.set_ 2 (.int .u64 (y3 : Int))); simpa using this
  rw [ew] at hO hB ⊢
  have K := Lh (K.out.only hM HW.out.st hO HX.out.free aK.out)
  have HB := Lh (HB.out.only hM HW.out.st hO HX.out.free (by omega))
  have HX1 := Lh (HX.out.turn hM HW.out.st hO hB)
  have HW := Lh (HW.out.only hM HX.out hO)
  have HX := HX1
  clear HX1 ew hO hB fx cx2 cx3
  have HC := Lh (hM.c_text s3 x.key _ (Lh HW.out.st) HO.out.key (hM.mono HF.out (by omega)))
  have HF := Lh (hM.f_text (s := s3) (x := x.key) (a := 20971784) (hM.mono HF.out (by omega)) (HO.out.key).2)
  generalize M.text s3 x.key = r at *
  obtain ⟨s4, y4⟩ := r
  rw [bnd_mk] at HR
  simp only at HC HF
  refine HC.out.mono ?_
  rintro e w4 ⟨rfl, hs, hk⟩
  clear HC
  have K := Lh (K.out.call hk)
  have HX := Lh (HX.out.call hk)
  have HB := Lh (HB.out.call hk)
  have HW := Lh (HW.out.call hs hk)
  clear hs hk
  have cx3 := HX.out.blk.cell 3
  have fx := HX.out.blk.frozen
  have cx4 := HX.out.blk.cell 4
  go_wp2_with fail
  obtain ⟨v4, ew⟩ : ∃ v4, w4.setCell ⟨w.heap.size, 3, none⟩ (.string (strOf y4)) = v4 := ⟨_, rfl⟩
  have hO := (Only.set_ w4 w.heap.size 3 (.string (strOf y4)))
  have hB : Blk (w4.setCell ⟨w.heap.size, 3, none⟩ (.string (strOf y4))) w.heap.size 84 #[.int .i64 y1, .int .u64 (y2 : Int), .int .u64 (y3 : Int), .string (strOf y4), .int .i64 x.size, .int .u32 (x.sum : Int), .int .u64 (x.version : Int), .int .u64 (x.epoch : Int), .int .i64 x.group, .int .i64 x.node, .bool x.up, .int .u64 (x.id.ver : Int), .int .i64 x.id.idx, .int .u64 (x.id.ep : Int), .int .u64 (x.mep : Int), .slice A x.mem.length c] := by have := (HX.out.blk.set_ 3 (.string (strOf y4))); simpa using this
  rw [ew] at hO hB ⊢
  have K := Lh (K.out.only hM HW.out.st hO HX.out.free aK.out)
  have HB := Lh (HB.out.only hM HW.out.st hO HX.out.free (by omega))
  have HX1 := Lh (HX.out.turn hM HW.out.st hO hB)
  have HW := Lh (HW.out.only hM HX.out hO)
  have HX := HX1
  clear HX1 ew hO hB fx cx3 cx4
  have HC := Lh (hM.c_int s4 x.size _ (Lh HW.out.st) HO.out.size (hM.mono HF.out (by omega)))
  have HF := Lh (hM.f_int (s := s4) (x := x.size) (a := 20971774) (hM.mono HF.out (by omega)) HO.out.size)
  generalize M.int s4 x.size = r at *
  obtain ⟨s5, y5⟩ := r
  rw [bnd_mk] at HR
  simp only at HC HF
  refine HC.out.mono ?_
  rintro e w5 ⟨rfl, hs, hk⟩
  clear HC
  have K := Lh (K.out.call hk)
  have HX := Lh (HX.out.call hk)
  have HB := Lh (HB.out.call hk)
  have HW := Lh (HW.out.call hs hk)
  clear hs hk
  have cx4 := HX.out.blk.cell 4
  have fx := HX.out.blk.frozen
  have cx5 := HX.out.blk.cell 5
  go_wp2_with fail
  obtain ⟨v5, ew⟩ : ∃ v5, w5.setCell ⟨w.heap.size, 4, none⟩ (.int .i64 y5) = v5 := ⟨_, rfl⟩
  have hO := (Only.set_ w5 w.heap.size 4 (.int .i64 y5))
  have hB : Blk (w5.setCell ⟨w.heap.size, 4, none⟩ (.int .i64 y5)) w.heap.size 84 #[.int .i64 y1, .int .u64 (y2 : Int), .int .u64 (y3 : Int), .string (strOf y4), .int .i64 y5, .int .u32 (x.sum : Int), .int .u64 (x.version : Int), .int .u64 (x.epoch : Int), .int .i64 x.group, .int .i64 x.node, .bool x.up, .int .u64 (x.id.ver : Int), .int .i64 x.id.idx, .int .u64 (x.id.ep : Int), .int .u64 (x.mep : Int), .slice A x.mem.length c] := by have := (HX.out.blk.set_ 4 (.int .i64 y5)); simpa using this
  rw [ew] at hO hB ⊢
  have K := Lh (K.out.only hM HW.out.st hO HX.out.free aK.out)
  have HB := Lh (HB.out.only hM HW.out.st hO HX.out.free (by omega))
  have HX1 := Lh (HX.out.turn hM HW.out.st hO hB)
  have HW := Lh (HW.out.only hM HX.out hO)
  have HX := HX1
  clear HX1 ew hO hB fx cx4 cx5
  have HC := Lh (hM.c_u32 s5 x.sum _ (Lh HW.out.st) HO.out.sum (hM.mono HF.out (by omega)))
  have HF := Lh (hM.f_u32 (s := s5) (x := x.sum) (a := 20971764) (hM.mono HF.out (by omega)) HO.out.sum)
  generalize M.u32 s5 x.sum = r at *
  obtain ⟨s6, y6⟩ := r
  rw [bnd_mk] at HR
  simp only at HC HF
  refine HC.out.mono ?_
  rintro e w6 ⟨rfl, hs, hk⟩
  clear HC
  have K := Lh (K.out.call hk)
  have HX := Lh (HX.out.call hk)
  have HB := Lh (HB.out.call hk)
  have HW := Lh (HW.out.call hs hk)
  clear hs hk
  have cx5 := HX.out.blk.cell 5
  have fx := HX.out.blk.frozen
  have cx6 := HX.out.blk.cell 6
  go_wp2_with fail
  obtain ⟨v6, ew⟩ : ∃ v6, w6.setCell ⟨w.heap.size, 5, none⟩ (.int .u32 (y6 : Int)) = v6 := ⟨_, rfl⟩
  have hO := (Only.set_ w6 w.heap.size 5 (.int .u32 (y6 : Int)))
  have hB : Blk (w6.setCell ⟨w.heap.size, 5, none⟩ (.int .u32 (y6 : Int))) w.heap.size 84 #[.int .i64 y1, .int .u64 (y2 : Int), .int .u64 (y3 : Int), .string (strOf y4), .int .i64 y5, .int .u32 (y6 : Int), .int .u64 (x.version : Int), .int .u64 (x.epoch : Int), .int .i64 x.group, .int .i64 x.node, .bool x.up, .int .u64 (x.id.ver : Int), .int .i64 x.id.idx, .int .u64 (x.id.ep : Int), .int .u64 (x.mep : Int), .slice A x.mem.length c] := by have := (HX.out.blk.set_ 5 (.int .u32 (y6 : Int))); simpa using this
  rw [ew] at hO hB ⊢
  have K := Lh (K.out.only hM HW.out.st hO HX.out.free aK.out)
  have HB := Lh (HB.out.only hM HW.out.st hO HX.out.free (by omega))
  have HX1 := Lh (HX.out.turn hM HW.out.st hO hB)
  have HW := Lh (HW.out.only hM HX.out hO)
  have HX := HX1
  clear HX1 ew hO hB fx cx5 cx6
  have HC := Lh (hM.c_u64 s6 x.version _ (Lh HW.out.st) HO.out.version (hM.mono HF.out (by omega)))
  have HF := Lh (hM.f_u64 (s := s6) (x := x.version) (a := 20971754) (hM.mono HF.out (by omega)) HO.out.version)
  generalize M.u64 s6 x.version = r at *
  obtain ⟨s7, y7⟩ := r
  rw [bnd_mk] at HR
  simp only at HC HF
  refine HC.out.mono ?_
  rintro e w7 ⟨rfl, hs, hk⟩
  clear HC
  have K := Lh (K.out.call hk)
  have HX := Lh (HX.out.call hk)
  have HB := Lh (HB.out.call hk)
  have HW := Lh (HW.out.call hs hk)
  clear hs hk
  have cx6 := HX.out.blk.cell 6
  have fx := HX.out.blk.frozen
  have cx7 := HX.out.blk.cell 7
  go_wp2_with fail
  obtain ⟨v7, ew⟩ : ∃ v7, w7.setCell ⟨w.heap.size, 6, none⟩ (.int .u64 (y7 : Int)) = v7 := ⟨_, rfl⟩
  have hO := (Only.set_ w7 w.heap.size 6 (.int .u64 (y7 : Int)))
  have hB : Blk (w7.setCell ⟨w.heap.size, 6, none⟩ (.int .u64 (y7 : Int))) w.heap.size 84 #[.int .i64 y1, .int .u64 (y2 : Int), .int .u64 (y3 : Int), .string (strOf y4), .int .i64 y5, .int .u32 (y6 : Int), .int .u64 (y7 : Int), .int .u64 (x.epoch : Int), .int .i64 x.group, .int .i64 x.node, .bool x.up, .int .u64 (x.id.ver : Int), .int .i64 x.id.idx, .int .u64 (x.id.ep : Int), .int .u64 (x.mep : Int), .slice A x.mem.length c] := by have := (HX.out.blk.set_ 6 (.int .u64 (y7 : Int))); simpa using this
  rw [ew] at hO hB ⊢
  have K := Lh (K.out.only hM HW.out.st hO HX.out.free aK.out)
  have HB := Lh (HB.out.only hM HW.out.st hO HX.out.free (by omega))
  have HX1 := Lh (HX.out.turn hM HW.out.st hO hB)
  have HW := Lh (HW.out.only hM HX.out hO)
  have HX := HX1
  clear HX1 ew hO hB fx cx6 cx7
  have HC := Lh (hM.c_u64 s7 x.epoch _ (Lh HW.out.st) HO.out.epoch (hM.mono HF.out (by omega)))
  have HF := Lh (hM.f_u64 (s := s7) (x := x.epoch) (a := 20971744) (hM.mono HF.out (by omega)) HO.out.epoch)
  generalize M.u64 s7 x.epoch = r at *
  obtain ⟨s8, y8⟩ := r
  rw [bnd_mk] at HR
  simp only at HC HF
  refine HC.out.mono ?_
  rintro e w8 ⟨rfl, hs, hk⟩
  clear HC
  have K := Lh (K.out.call hk)
  have HX := Lh (HX.out.call hk)
  have HB := Lh (HB.out.call hk)
  have HW := Lh (HW.out.call hs hk)
  clear hs hk
  have cx7 := HX.out.blk.cell 7
  have fx := HX.out.blk.frozen
  have cx8 := HX.out.blk.cell 8
  go_wp2_with fail
  obtain ⟨v8, ew⟩ : ∃ v8, w8.setCell ⟨w.heap.size, 7, none⟩ (.int .u64 (y8 : Int)) = v8 := ⟨_, rfl⟩
  have hO := (Only.set_ w8 w.heap.size 7 (.int .u64 (y8 : Int)))
  have hB : Blk (w8.setCell ⟨w.heap.size, 7, none⟩ (.int .u64 (y8 : Int))) w.heap.size 84 #[.int .i64 y1, .int .u64 (y2 : Int), .int .u64 (y3 : Int), .string (strOf y4), .int .i64 y5, .int .u32 (y6 : Int), .int .u64 (y7 : Int), .int .u64 (y8 : Int), .int .i64 x.group, .int .i64 x.node, .bool x.up, .int .u64 (x.id.ver : Int), .int .i64 x.id.idx, .int .u64 (x.id.ep : Int), .int .u64 (x.mep : Int), .slice A x.mem.length c] := by have := (HX.out.blk.set_ 7 (.int .u64 (y8 : Int))); simpa using this
  rw [ew] at hO hB ⊢
  have K := Lh (K.out.only hM HW.out.st hO HX.out.free aK.out)
  have HB := Lh (HB.out.only hM HW.out.st hO HX.out.free (by omega))
  have HX1 := Lh (HX.out.turn hM HW.out.st hO hB)
  have HW := Lh (HW.out.only hM HX.out hO)
  have HX := HX1
  clear HX1 ew hO hB fx cx7 cx8
  have HC := Lh (hM.c_int s8 x.group _ (Lh HW.out.st) HO.out.group (hM.mono HF.out (by omega)))
  have HF := Lh (hM.f_int (s := s8) (x := x.group) (a := 20971734) (hM.mono HF.out (by omega)) HO.out.group)
  generalize M.int s8 x.group = r at *
  obtain ⟨s9, y9⟩ := r
  rw [bnd_mk] at HR
  simp only at HC HF
  refine HC.out.mono ?_
  rintro e w9 ⟨rfl, hs, hk⟩
  clear HC
  have K := Lh (K.out.call hk)
  have HX := Lh (HX.out.call hk)
  have HB := Lh (HB.out.call hk)
  have HW := Lh (HW.out.call hs hk)
  clear hs hk
  have cx8 := HX.out.blk.cell 8
  have fx := HX.out.blk.frozen
  have cx9 := HX.out.blk.cell 9
  go_wp2_with fail
  obtain ⟨v9, ew⟩ : ∃ v9, w9.setCell ⟨w.heap.size, 8, none⟩ (.int .i64 y9) = v9 := ⟨_, rfl⟩
  have hO := (Only.set_ w9 w.heap.size 8 (.int .i64 y9))
  have hB : Blk (w9.setCell ⟨w.heap.size, 8, none⟩ (.int .i64 y9)) w.heap.size 84 #[.int .i64 y1, .int .u64 (y2 : Int), .int .u64 (y3 : Int), .string (strOf y4), .int .i64 y5, .int .u32 (y6 : Int), .int .u64 (y7 : Int), .int .u64 (y8 : Int), .int .i64 y9, .int .i64 x.node, .bool x.up, .int .u64 (x.id.ver : Int), .int .i64 x.id.idx, .int .u64 (x.id.ep : Int), .int .u64 (x.mep : Int), .slice A x.mem.length c] := by have := (HX.out.blk.set_ 8 (.int .i64 y9)); simpa using this
  rw [ew] at hO hB ⊢
  have K := Lh (K.out.only hM HW.out.st hO HX.out.free aK.out)
  have HB := Lh (HB.out.only hM HW.out.st hO HX.out.free (by omega))
  have HX1 := Lh (HX.out.turn hM HW.out.st hO hB)
  have HW := Lh (HW.out.only hM HX.out hO)
  have HX := HX1
  clear HX1 ew hO hB fx cx8 cx9
  have HC := Lh (hM.c_int s9 x.node _ (Lh HW.out.st) HO.out.node (hM.mono HF.out (by omega)))
  have HF := Lh (hM.f_int (s := s9) (x := x.node) (a := 20971724) (hM.mono HF.out (by omega)) HO.out.node)
  generalize M.int s9 x.node = r at *
  obtain ⟨s10, y10⟩ := r
  rw [bnd_mk] at HR
  simp only at HC HF
  refine HC.out.mono ?_
  rintro e w10 ⟨rfl, hs, hk⟩
  clear HC
  have K := Lh (K.out.call hk)
  have HX := Lh (HX.out.call hk)
  have HB := Lh (HB.out.call hk)
  have HW := Lh (HW.out.call hs hk)
  clear hs hk
  have cx9 := HX.out.blk.cell 9
  have fx := HX.out.blk.frozen
  have cx10 := HX.out.blk.cell 10
  go_wp2_with fail
  obtain ⟨v10, ew⟩ : ∃ v10, w10.setCell ⟨w.heap.size, 9, none⟩ (.int .i64 y10) = v10 := ⟨_, rfl⟩
  have hO := (Only.set_ w10 w.heap.size 9 (.int .i64 y10))
  have hB : Blk (w10.setCell ⟨w.heap.size, 9, none⟩ (.int .i64 y10)) w.heap.size 84 #[.int .i64 y1, .int .u64 (y2 : Int), .int .u64 (y3 : Int), .string (strOf y4), .int .i64 y5, .int .u32 (y6 : Int), .int .u64 (y7 : Int), .int .u64 (y8 : Int), .int .i64 y9, .int .i64 y10, .bool x.up, .int .u64 (x.id.ver : Int), .int .i64 x.id.idx, .int .u64 (x.id.ep : Int), .int .u64 (x.mep : Int), .slice A x.mem.length c] := by have := (HX.out.blk.set_ 9 (.int .i64 y10)); simpa using this
  rw [ew] at hO hB ⊢
  have K := Lh (K.out.only hM HW.out.st hO HX.out.free aK.out)
  have HB := Lh (HB.out.only hM HW.out.st hO HX.out.free (by omega))
  have HX1 := Lh (HX.out.turn hM HW.out.st hO hB)
  have HW := Lh (HW.out.only hM HX.out hO)
  have HX := HX1
  clear HX1 ew hO hB fx cx9 cx10
  have HC := Lh (hM.c_flag s10 x.up _ (Lh HW.out.st) (hM.mono HF.out (by omega)))
  have HF := Lh (hM.f_flag (s := s10) (x := x.up) (a := 20971714) (hM.mono HF.out (by omega)))
  generalize M.flag s10 x.up = r at *
  obtain ⟨s11, y11⟩ := r
  rw [bnd_mk] at HR
  simp only at HC HF
  refine HC.out.mono ?_
  rintro e w11 ⟨rfl, hs, hk⟩
  clear HC
  have K := Lh (K.out.call hk)
  have HX := Lh (HX.out.call hk)
  have HB := Lh (HB.out.call hk)
  have HW := Lh (HW.out.call hs hk)
  clear hs hk
  have cx10 := HX.out.blk.cell 10
  have fx := HX.out.blk.frozen
  have cx11 := HX.out.blk.cell 11
  have cx12 := HX.out.blk.cell 12
  have cx13 := HX.out.blk.cell 13
  go_wp2_with fail
  obtain ⟨v11, ew⟩ : ∃ v11, w11.setCell ⟨w.heap.size, 10, none⟩ (.bool y11) = v11 := ⟨_, rfl⟩
  have hO := (Only.set_ w11 w.heap.size 10 (.bool y11))
  have hB : Blk (w11.setCell ⟨w.heap.size, 10, none⟩ (.bool y11)) w.heap.size 84 #[.int .i64 y1, .int .u64 (y2 : Int), .int .u64 (y3 : Int), .string (strOf y4), .int .i64 y5, .int .u32 (y6 : Int), .int .u64 (y7 : Int), .int .u64 (y8 : Int), .int .i64 y9, .int .i64 y10, .bool y11, .int .u64 (x.id.ver : Int), .int .i64 x.id.idx, .int .u64 (x.id.ep : Int), .int .u64 (x.mep : Int), .slice A x.mem.length c] := by have := (HX.out.blk.set_ 10 (.bool y11)); simpa using this
  rw [ew] at hO hB ⊢
  have K := Lh (K.out.only hM HW.out.st hO HX.out.free aK.out)
  have HB := Lh (HB.out.only hM HW.out.st hO HX.out.free (by omega))
  have HX1 := Lh (HX.out.turn hM HW.out.st hO hB)
  have HW := Lh (HW.out.only hM HX.out hO)
  have HX := HX1
  clear HX1 ew hO hB fx cx10 cx11 cx12 cx13
  have HC := Lh (pf_id M hM s11 x.id _ (Lh HW.out.st) HO.out.id_ (hM.mono HF.out (by omega)))
  have HF := Lh (f_id hM (a := 20971684) (hM.mono HF.out (by omega)) HO.out.id_)
  generalize idF M s11 x.id = r at *
  obtain ⟨s12, y12⟩ := r
  rw [bnd_mk] at HR
  simp only at HC HF
  refine HC.out.mono ?_
  rintro e w12 ⟨rfl, hs, hk⟩
  clear HC
  unfold idCs
  have K := Lh (K.out.call hk)
  have HX := Lh (HX.out.call hk)
  have HB := Lh (HB.out.call hk)
  have HW := Lh (HW.out.call hs hk)
  clear hs hk
  have cx11 := HX.out.blk.cell 11
  have cx12 := HX.out.blk.cell 12
  have cx13 := HX.out.blk.cell 13
  have fx := HX.out.blk.frozen
  have cx14 := HX.out.blk.cell 14
  have cx15 := HX.out.blk.cell 15
  go_wp2_with fail
  obtain ⟨v12, ew⟩ : ∃ v12, ((w12.setCell ⟨w.heap.size, 11, none⟩ (.int .u64 (y12.ver : Int))).setCell ⟨w.heap.size, 12, none⟩ (.int .i64 y12.idx)).setCell ⟨w.heap.size, 13, none⟩ (.int .u64 (y12.ep : Int)) = v12 := ⟨_, rfl⟩
  have hO := (((Only.set_ w12 w.heap.size 11 (.int .u64 (y12.ver : Int))).trans (Only.set_ (w12.setCell ⟨w.heap.size, 11, none⟩ (.int .u64 (y12.ver : Int))) w.heap.size 12 (.int .i64 y12.idx))).trans (Only.set_ ((w12.setCell ⟨w.heap.size, 11, none⟩ (.int .u64 (y12.ver : Int))).setCell ⟨w.heap.size, 12, none⟩ (.int .i64 y12.idx)) w.heap.size 13 (.int .u64 (y12.ep : Int))))
  have hB : Blk (((w12.setCell ⟨w.heap.size, 11, none⟩ (.int .u64 (y12.ver : Int))).setCell ⟨w.heap.size, 12, none⟩ (.int .i64 y12.idx)).setCell ⟨w.heap.size, 13, none⟩ (.int .u64 (y12.ep : Int))) w.heap.size 84 #[.int .i64 y1, .int .u64 (y2 : Int), .int .u64 (y3 : Int), .string (strOf y4), .int .i64 y5, .int .u32 (y6 : Int), .int .u64 (y7 : Int), .int .u64 (y8 : Int), .int .i64 y9, .int .i64 y10, .bool y11, .int .u64 (y12.ver : Int), .int .i64 y12.idx, .int .u64 (y12.ep : Int), .int .u64 (x.mep : Int), .slice A x.mem.length c] := by have := (((HX.out.blk.set_ 11 (.int .u64 (y12.ver : Int))).set_ 12 (.int .i64 y12.idx)).set_ 13 (.int .u64 (y12.ep : Int))); simpa using this
  rw [ew] at hO hB ⊢
  have K := Lh (K.out.only hM HW.out.st hO HX.out.free aK.out)
  have HB := Lh (HB.out.only hM HW.out.st hO HX.out.free (by omega))
  have HX1 := Lh (HX.out.turn hM HW.out.st hO hB)
  have HW := Lh (HW.out.only hM HX.out hO)
  have HX := HX1
  clear HX1 ew hO hB fx cx11 cx12 cx13 cx14 cx15
  have HC := Lh (pf_map M hM s12 A c (x.mep, x.mem) _ (Lh HW.out.st) (Lh K.out) HO.out.map_ KZ (Lh (hM.mono HF.out (by omega))))
  have HF := Lh (f_map hM (x := (x.mep, x.mem)) HO.out.map_ (a := 134) (hM.mono HF.out (by omega)))
  generalize mapF M s12 (x.mep, x.mem) = r at *
  obtain ⟨s13, y13⟩ := r
  rw [bnd_mk] at HR
  simp only at HC HF
  refine HC.out.mono ?_
  rintro e w13 ⟨A13, c13, rfl, l0, hs, hk⟩
  clear HC
  have K := Lh (K.out.call hk)
  have L130 := Lh (l0.mono HB.out.free.lt)
  clear l0
  have HX := Lh (HX.out.call hk)
  have HB := Lh (HB.out.call hk)
  have HW := Lh (HW.out.call hs hk)
  clear hs hk
  have cx14 := HX.out.blk.cell 14
  have cx15 := HX.out.blk.cell 15
  have fx := HX.out.blk.frozen
  have hO := ((Only.set_ w13 w.heap.size 14 (.int .u64 (y13.1 : Int))).trans (Only.set_ (w13.setCell ⟨w.heap.size, 14, none⟩ (.int .u64 (y13.1 : Int))) w.heap.size 15 (.slice A13 y13.2.length c13)))
  have hB : Blk ((w13.setCell ⟨w.heap.size, 14, none⟩ (.int .u64 (y13.1 : Int))).setCell ⟨w.heap.size, 15, none⟩ (.slice A13 y13.2.length c13)) w.heap.size 84 #[.int .i64 y1, .int .u64 (y2 : Int), .int .u64 (y3 : Int), .string (strOf y4), .int .i64 y5, .int .u32 (y6 : Int), .int .u64 (y7 : Int), .int .u64 (y8 : Int), .int .i64 y9, .int .i64 y10, .bool y11, .int .u64 (y12.ver : Int), .int .i64 y12.idx, .int .u64 (y12.ep : Int), .int .u64 (y13.1 : Int), .slice A13 y13.2.length c13] := by have := ((HX.out.blk.set_ 14 (.int .u64 (y13.1 : Int))).set_ 15 (.slice A13 y13.2.length c13)); simpa using this
  have K := Lh (K.out.only hM HW.out.st hO HX.out.free aK.out)
  have L130 := Lh (L130.out.only hM HW.out.st hO HX.out.free (by omega))
  have HB := Lh (HB.out.only hM HW.out.st hO HX.out.free (by omega))
  have HX1 := Lh (HX.out.turn hM HW.out.st hO hB)
  have HW := Lh (HW.out.only hM HX.out hO)
  have HX := HX1
  clear HX1 hO hB
  go_wp2_with (first | (refine wpl_load_blk rfl 84 (.tmp 3) rfl w.heap.size 84 _ _ rfl HX.out.blk Tryz.underlying84 rfl Tryz.sizeC ?_) | (refine wpl_store_blk rfl 84 (.tmp 4) (.tmp 70) rfl (w.heap.size + 1) 84 _ #[.int .i64 y1, .int .u64 (y2 : Int), .int .u64 (y3 : Int), .string (strOf y4), .int .i64 y5, .int .u32 (y6 : Int), .int .u64 (y7 : Int), .int .u64 (y8 : Int), .int .i64 y9, .int .i64 y10, .bool y11, .int .u64 (y12.ver : Int), .int .i64 y12.idx, .int .u64 (y12.ep : Int), .int .u64 (y13.1 : Int), .slice A13 y13.2.length c13] rfl rfl HB.out.blk rfl Tryz.sizeC rfl ?_; intro wf hB hO))
  have L130 := Lh (L130.out.only hM HW.out.st hO.out HB.out.free (by omega))
  have HW := Lh (HW.out.only hM HB.out hO.out)
  refine bodyPost_ret (v := .agg #[.int .i64 y1, .int .u64 (y2 : Int), .int .u64 (y3 : Int), .string (strOf y4), .int .i64 y5, .int .u32 (y6 : Int), .int .u64 (y7 : Int), .int .u64 (y8 : Int), .int .i64 y9, .int .i64 y10, .bool y11, .int .u64 (y12.ver : Int), .int .i64 y12.idx, .int .u64 (y12.ep : Int), .int .u64 (y13.1 : Int), .slice A13 y13.2.length c13]) (res_c Tryz.results109 rfl (load_blk hB.out Tryz.underlying84 rfl Tryz.sizeC)) rfl ?_
  rw [HR.out]
  exact ⟨A13, c13, rfl, L130.out.mono (by omega), HW.out.st, HW.out.stp⟩
def RetEn (M : Md σ) (s' : σ) (y : EntT) (w : World) (e : Ending) (w' : World) : Prop :=
  ∃ A c B d E f, e = .returned (.agg (entCs y A c B d E f)) ∧ Lx M w.heap.size 2 A c y.cmd.mem.length (mcells y.cmd.mem) w' ∧ Lx M w.heap.size 1 B d y.voters.length (y.voters.map iv) w' ∧ Lx M w.heap.size 1 E f y.learners.length (y.learners.map iv) w' ∧ M.St s' w' ∧ Stp M w w'
set_option maxRecDepth 100000 in
set_option maxHeartbeats 4000000 in
theorem pf_entry (M : Md σ) (hM : MdOk M) (s : σ) (A : Option Addr) (c : Nat) (B : Option Addr) (d : Nat) (E : Option Addr) (f : Nat) (x : EntT) (w : World) (hS : Hid (M.St s w)) (hK : Hid (Ls M 2 A x.cmd.mem.length (mcells x.cmd.mem) w)) (hJ : Hid (Ls M 1 B x.voters.length (x.voters.map iv) w)) (hI : Hid (Ls M 1 E x.learners.length (x.learners.map iv) w)) (HO : EntOk x) (KZ : Hid (M.write = false → x.cmd.mem = [])) (JZ : Hid (M.write = false → x.voters = [])) (IZ : Hid (M.write = false → x.learners = [])) (hf : Hid (M.fit s 42992040)) :
    Calls Tryz.prog 92 #[.pointer (some ⟨M.g, 0, none⟩), .agg #[.int .u64 (x.index : Int), .int .u64 (x.term : Int), .int .i64 x.kind, .int .i64 x.cmd.kind, .int .u64 (x.cmd.client : Int), .int .u64 (x.cmd.seq : Int), .string (strOf x.cmd.key), .int .i64 x.cmd.size, .int .u32 (x.cmd.sum : Int), .int .u64 (x.cmd.version : Int), .int .u64 (x.cmd.epoch : Int), .int .i64 x.cmd.group, .int .i64 x.cmd.node, .bool x.cmd.up, .int .u64 (x.cmd.id.ver : Int), .int .i64 x.cmd.id.idx, .int .u64 (x.cmd.id.ep : Int), .int .u64 (x.cmd.mep : Int), .slice A x.cmd.mem.length c, .slice B x.voters.length d, .slice E x.learners.length f]] w (RetEn M (entF M s x).1 (entF M s x).2 w) := by
  have HR := Lh (show entF M s x = bnd (M.u64 s x.index) fun s1 y1 => bnd (M.u64 s1 x.term) fun s2 y2 => bnd (M.int s2 x.kind) fun s3 y3 => bnd (cmdF M s3 x.cmd) fun s4 y4 => bnd (confF M s4 (x.voters, x.learners)) fun s5 y5 => (s5, ⟨y1, y2, y3, y4, y5.1, y5.2⟩) from rfl)
  have HF := Lh hf.out
  have HO := Lh HO
  obtain ⟨w0, ew0⟩ : ∃ w0, ((w.alloc (.cells #[.int .u64 (x.index : Int), .int .u64 (x.term : Int), .int .i64 x.kind, .int .i64 x.cmd.kind, .int .u64 (x.cmd.client : Int), .int .u64 (x.cmd.seq : Int), .string (strOf x.cmd.key), .int .i64 x.cmd.size, .int .u32 (x.cmd.sum : Int), .int .u64 (x.cmd.version : Int), .int .u64 (x.cmd.epoch : Int), .int .i64 x.cmd.group, .int .i64 x.cmd.node, .bool x.cmd.up, .int .u64 (x.cmd.id.ver : Int), .int .i64 x.cmd.id.idx, .int .u64 (x.cmd.id.ep : Int), .int .u64 (x.cmd.mep : Int), .slice A x.cmd.mem.length c, .slice B x.voters.length d, .slice E x.learners.length f] 86)).alloc (.cells #[.int .u64 0, .int .u64 0, .int .i64 0, .int .i64 0, .int .u64 0, .int .u64 0, .string ⟨#[]⟩, .int .i64 0, .int .u32 0, .int .u64 0, .int .u64 0, .int .i64 0, .int .i64 0, .bool false, .int .u64 0, .int .i64 0, .int .u64 0, .int .u64 0, .slice none 0 0, .slice none 0 0, .slice none 0 0] 86)) = w0 := ⟨_, rfl⟩
  have hwa := (Wk.start hS.out).alloc hM (.cells #[.int .u64 (x.index : Int), .int .u64 (x.term : Int), .int .i64 x.kind, .int .i64 x.cmd.kind, .int .u64 (x.cmd.client : Int), .int .u64 (x.cmd.seq : Int), .string (strOf x.cmd.key), .int .i64 x.cmd.size, .int .u32 (x.cmd.sum : Int), .int .u64 (x.cmd.version : Int), .int .u64 (x.cmd.epoch : Int), .int .i64 x.cmd.group, .int .i64 x.cmd.node, .bool x.cmd.up, .int .u64 (x.cmd.id.ver : Int), .int .i64 x.cmd.id.idx, .int .u64 (x.cmd.id.ep : Int), .int .u64 (x.cmd.mep : Int), .slice A x.cmd.mem.length c, .slice B x.voters.length d, .slice E x.learners.length f] 86)
  have hx := (Bk.new hM (Wk.start hS.out) #[.int .u64 (x.index : Int), .int .u64 (x.term : Int), .int .i64 x.kind, .int .i64 x.cmd.kind, .int .u64 (x.cmd.client : Int), .int .u64 (x.cmd.seq : Int), .string (strOf x.cmd.key), .int .i64 x.cmd.size, .int .u32 (x.cmd.sum : Int), .int .u64 (x.cmd.version : Int), .int .u64 (x.cmd.epoch : Int), .int .i64 x.cmd.group, .int .i64 x.cmd.node, .bool x.cmd.up, .int .u64 (x.cmd.id.ver : Int), .int .i64 x.cmd.id.idx, .int .u64 (x.cmd.id.ep : Int), .int .u64 (x.cmd.mep : Int), .slice A x.cmd.mem.length c, .slice B x.voters.length d, .slice E x.learners.length f] 86).alloc hM hwa.st (.cells #[.int .u64 0, .int .u64 0, .int .i64 0, .int .i64 0, .int .u64 0, .int .u64 0, .string ⟨#[]⟩, .int .i64 0, .int .u32 0, .int .u64 0, .int .u64 0, .int .i64 0, .int .i64 0, .bool false, .int .u64 0, .int .i64 0, .int .u64 0, .int .u64 0, .slice none 0 0, .slice none 0 0, .slice none 0 0] 86)
  have hr : Bk M w (w.heap.size + 1) 86 #[.int .u64 0, .int .u64 0, .int .i64 0, .int .i64 0, .int .u64 0, .int .u64 0, .string ⟨#[]⟩, .int .i64 0, .int .u32 0, .int .u64 0, .int .u64 0, .int .i64 0, .int .i64 0, .bool false, .int .u64 0, .int .i64 0, .int .u64 0, .int .u64 0, .slice none 0 0, .slice none 0 0, .slice none 0 0] ((w.alloc (.cells #[.int .u64 (x.index : Int), .int .u64 (x.term : Int), .int .i64 x.kind, .int .i64 x.cmd.kind, .int .u64 (x.cmd.client : Int), .int .u64 (x.cmd.seq : Int), .string (strOf x.cmd.key), .int .i64 x.cmd.size, .int .u32 (x.cmd.sum : Int), .int .u64 (x.cmd.version : Int), .int .u64 (x.cmd.epoch : Int), .int .i64 x.cmd.group, .int .i64 x.cmd.node, .bool x.cmd.up, .int .u64 (x.cmd.id.ver : Int), .int .i64 x.cmd.id.idx, .int .u64 (x.cmd.id.ep : Int), .int .u64 (x.cmd.mep : Int), .slice A x.cmd.mem.length c, .slice B x.voters.length d, .slice E x.learners.length f] 86)).alloc (.cells #[.int .u64 0, .int .u64 0, .int .i64 0, .int .i64 0, .int .u64 0, .int .u64 0, .string ⟨#[]⟩, .int .i64 0, .int .u32 0, .int .u64 0, .int .u64 0, .int .i64 0, .int .i64 0, .bool false, .int .u64 0, .int .i64 0, .int .u64 0, .int .u64 0, .slice none 0 0, .slice none 0 0, .slice none 0 0] 86)) := by have := Bk.new hM hwa #[.int .u64 0, .int .u64 0, .int .i64 0, .int .i64 0, .int .u64 0, .int .u64 0, .string ⟨#[]⟩, .int .i64 0, .int .u32 0, .int .u64 0, .int .u64 0, .int .i64 0, .int .i64 0, .bool false, .int .u64 0, .int .i64 0, .int .u64 0, .int .u64 0, .slice none 0 0, .slice none 0 0, .slice none 0 0] 86; simpa using this
  have hw := hwa.alloc hM (.cells #[.int .u64 0, .int .u64 0, .int .i64 0, .int .i64 0, .int .u64 0, .int .u64 0, .string ⟨#[]⟩, .int .i64 0, .int .u32 0, .int .u64 0, .int .u64 0, .int .i64 0, .int .i64 0, .bool false, .int .u64 0, .int .i64 0, .int .u64 0, .int .u64 0, .slice none 0 0, .slice none 0 0, .slice none 0 0] 86)
  have hK1 := (hK.out.alloc hM hS.out (.cells #[.int .u64 (x.index : Int), .int .u64 (x.term : Int), .int .i64 x.kind, .int .i64 x.cmd.kind, .int .u64 (x.cmd.client : Int), .int .u64 (x.cmd.seq : Int), .string (strOf x.cmd.key), .int .i64 x.cmd.size, .int .u32 (x.cmd.sum : Int), .int .u64 (x.cmd.version : Int), .int .u64 (x.cmd.epoch : Int), .int .i64 x.cmd.group, .int .i64 x.cmd.node, .bool x.cmd.up, .int .u64 (x.cmd.id.ver : Int), .int .i64 x.cmd.id.idx, .int .u64 (x.cmd.id.ep : Int), .int .u64 (x.cmd.mep : Int), .slice A x.cmd.mem.length c, .slice B x.voters.length d, .slice E x.learners.length f] 86)).alloc hM hwa.st (.cells #[.int .u64 0, .int .u64 0, .int .i64 0, .int .i64 0, .int .u64 0, .int .u64 0, .string ⟨#[]⟩, .int .i64 0, .int .u32 0, .int .u64 0, .int .u64 0, .int .i64 0, .int .i64 0, .bool false, .int .u64 0, .int .i64 0, .int .u64 0, .int .u64 0, .slice none 0 0, .slice none 0 0, .slice none 0 0] 86)
  have aK := Lh (hK.out.apart (Nat.le_refl _))
  have bK := Lh (hK.out.apart (Nat.le_succ _))
  have hJ1 := (hJ.out.alloc hM hS.out (.cells #[.int .u64 (x.index : Int), .int .u64 (x.term : Int), .int .i64 x.kind, .int .i64 x.cmd.kind, .int .u64 (x.cmd.client : Int), .int .u64 (x.cmd.seq : Int), .string (strOf x.cmd.key), .int .i64 x.cmd.size, .int .u32 (x.cmd.sum : Int), .int .u64 (x.cmd.version : Int), .int .u64 (x.cmd.epoch : Int), .int .i64 x.cmd.group, .int .i64 x.cmd.node, .bool x.cmd.up, .int .u64 (x.cmd.id.ver : Int), .int .i64 x.cmd.id.idx, .int .u64 (x.cmd.id.ep : Int), .int .u64 (x.cmd.mep : Int), .slice A x.cmd.mem.length c, .slice B x.voters.length d, .slice E x.learners.length f] 86)).alloc hM hwa.st (.cells #[.int .u64 0, .int .u64 0, .int .i64 0, .int .i64 0, .int .u64 0, .int .u64 0, .string ⟨#[]⟩, .int .i64 0, .int .u32 0, .int .u64 0, .int .u64 0, .int .i64 0, .int .i64 0, .bool false, .int .u64 0, .int .i64 0, .int .u64 0, .int .u64 0, .slice none 0 0, .slice none 0 0, .slice none 0 0] 86)
  have aJ := Lh (hJ.out.apart (Nat.le_refl _))
  have bJ := Lh (hJ.out.apart (Nat.le_succ _))
  have hI1 := (hI.out.alloc hM hS.out (.cells #[.int .u64 (x.index : Int), .int .u64 (x.term : Int), .int .i64 x.kind, .int .i64 x.cmd.kind, .int .u64 (x.cmd.client : Int), .int .u64 (x.cmd.seq : Int), .string (strOf x.cmd.key), .int .i64 x.cmd.size, .int .u32 (x.cmd.sum : Int), .int .u64 (x.cmd.version : Int), .int .u64 (x.cmd.epoch : Int), .int .i64 x.cmd.group, .int .i64 x.cmd.node, .bool x.cmd.up, .int .u64 (x.cmd.id.ver : Int), .int .i64 x.cmd.id.idx, .int .u64 (x.cmd.id.ep : Int), .int .u64 (x.cmd.mep : Int), .slice A x.cmd.mem.length c, .slice B x.voters.length d, .slice E x.learners.length f] 86)).alloc hM hwa.st (.cells #[.int .u64 0, .int .u64 0, .int .i64 0, .int .i64 0, .int .u64 0, .int .u64 0, .string ⟨#[]⟩, .int .i64 0, .int .u32 0, .int .u64 0, .int .u64 0, .int .i64 0, .int .i64 0, .bool false, .int .u64 0, .int .i64 0, .int .u64 0, .int .u64 0, .slice none 0 0, .slice none 0 0, .slice none 0 0] 86)
  have aI := Lh (hI.out.apart (Nat.le_refl _))
  have bI := Lh (hI.out.apart (Nat.le_succ _))
  rw [ew0] at hx hr hw hK1 hJ1 hI1
  have HX := Lh hx
  have HB := Lh hr
  have HW := Lh hw
  have K := Lh hK1
  have J := Lh hJ1
  have I := Lh hI1
  clear hx hr hw hwa hK1 hJ1 hI1
  have cx0 := HX.out.blk.cell 0
  go_enter Tryz.func92, Tryz.ntmps92
  go_wp2_with fail
  clear ew0 cx0
  have HC := Lh (hM.c_u64 s x.index _ (Lh HW.out.st) HO.out.index (hM.mono HF.out (by omega)))
  have HF := Lh (hM.f_u64 (s := s) (x := x.index) (a := 42992030) (hM.mono HF.out (by omega)) HO.out.index)
  generalize M.u64 s x.index = r at *
  obtain ⟨s1, y1⟩ := r
  rw [bnd_mk] at HR
  simp only at HC HF
  refine HC.out.mono ?_
  rintro e w1 ⟨rfl, hs, hk⟩
  clear HC
  have K := Lh (K.out.call hk)
  have J := Lh (J.out.call hk)
  have I := Lh (I.out.call hk)
  have HX := Lh (HX.out.call hk)
  have HB := Lh (HB.out.call hk)
  have HW := Lh (HW.out.call hs hk)
  clear hs hk
  have cx0 := HX.out.blk.cell 0
  have fx := HX.out.blk.frozen
  have cx1 := HX.out.blk.cell 1
  go_wp2_with fail
  obtain ⟨v1, ew⟩ : ∃ v1, w1.setCell ⟨w.heap.size, 0, none⟩ (.int .u64 (y1 : Int)) = v1 := ⟨_, rfl⟩
  have hO := (Only.set_ w1 w.heap.size 0 (.int .u64 (y1 : Int)))
  have hB : Blk (w1.setCell ⟨w.heap.size, 0, none⟩ (.int .u64 (y1 : Int))) w.heap.size 86 #[.int .u64 (y1 : Int), .int .u64 (x.term : Int), .int .i64 x.kind, .int .i64 x.cmd.kind, .int .u64 (x.cmd.client : Int), .int .u64 (x.cmd.seq : Int), .string (strOf x.cmd.key), .int .i64 x.cmd.size, .int .u32 (x.cmd.sum : Int), .int .u64 (x.cmd.version : Int), .int .u64 (x.cmd.epoch : Int), .int .i64 x.cmd.group, .int .i64 x.cmd.node, .bool x.cmd.up, .int .u64 (x.cmd.id.ver : Int), .int .i64 x.cmd.id.idx, .int .u64 (x.cmd.id.ep : Int), .int .u64 (x.cmd.mep : Int), .slice A x.cmd.mem.length c, .slice B x.voters.length d, .slice E x.learners.length f] := by have := (HX.out.blk.set_ 0 (.int .u64 (y1 : Int))); simpa using this
  rw [ew] at hO hB ⊢
  have K := Lh (K.out.only hM HW.out.st hO HX.out.free aK.out)
  have J := Lh (J.out.only hM HW.out.st hO HX.out.free aJ.out)
  have I := Lh (I.out.only hM HW.out.st hO HX.out.free aI.out)
  have HB := Lh (HB.out.only hM HW.out.st hO HX.out.free (by omega))
  have HX1 := Lh (HX.out.turn hM HW.out.st hO hB)
  have HW := Lh (HW.out.only hM HX.out hO)
  have HX := HX1
  clear HX1 ew hO hB fx cx0 cx1
  have HC := Lh (hM.c_u64 s1 x.term _ (Lh HW.out.st) HO.out.term (hM.mono HF.out (by omega)))
  have HF := Lh (hM.f_u64 (s := s1) (x := x.term) (a := 42992020) (hM.mono HF.out (by omega)) HO.out.term)
  generalize M.u64 s1 x.term = r at *
  obtain ⟨s2, y2⟩ := r
  rw [bnd_mk] at HR
  simp only at HC HF
  refine HC.out.mono ?_
  rintro e w2 ⟨rfl, hs, hk⟩
  clear HC
  have K := Lh (K.out.call hk)
  have J := Lh (J.out.call hk)
  have I := Lh (I.out.call hk)
  have HX := Lh (HX.out.call hk)
  have HB := Lh (HB.out.call hk)
  have HW := Lh (HW.out.call hs hk)
  clear hs hk
  have cx1 := HX.out.blk.cell 1
  have fx := HX.out.blk.frozen
  have cx2 := HX.out.blk.cell 2
  go_wp2_with fail
  obtain ⟨v2, ew⟩ : ∃ v2, w2.setCell ⟨w.heap.size, 1, none⟩ (.int .u64 (y2 : Int)) = v2 := ⟨_, rfl⟩
  have hO := (Only.set_ w2 w.heap.size 1 (.int .u64 (y2 : Int)))
  have hB : Blk (w2.setCell ⟨w.heap.size, 1, none⟩ (.int .u64 (y2 : Int))) w.heap.size 86 #[.int .u64 (y1 : Int), .int .u64 (y2 : Int), .int .i64 x.kind, .int .i64 x.cmd.kind, .int .u64 (x.cmd.client : Int), .int .u64 (x.cmd.seq : Int), .string (strOf x.cmd.key), .int .i64 x.cmd.size, .int .u32 (x.cmd.sum : Int), .int .u64 (x.cmd.version : Int), .int .u64 (x.cmd.epoch : Int), .int .i64 x.cmd.group, .int .i64 x.cmd.node, .bool x.cmd.up, .int .u64 (x.cmd.id.ver : Int), .int .i64 x.cmd.id.idx, .int .u64 (x.cmd.id.ep : Int), .int .u64 (x.cmd.mep : Int), .slice A x.cmd.mem.length c, .slice B x.voters.length d, .slice E x.learners.length f] := by have := (HX.out.blk.set_ 1 (.int .u64 (y2 : Int))); simpa using this
  rw [ew] at hO hB ⊢
  have K := Lh (K.out.only hM HW.out.st hO HX.out.free aK.out)
  have J := Lh (J.out.only hM HW.out.st hO HX.out.free aJ.out)
  have I := Lh (I.out.only hM HW.out.st hO HX.out.free aI.out)
  have HB := Lh (HB.out.only hM HW.out.st hO HX.out.free (by omega))
  have HX1 := Lh (HX.out.turn hM HW.out.st hO hB)
  have HW := Lh (HW.out.only hM HX.out hO)
  have HX := HX1
  clear HX1 ew hO hB fx cx1 cx2
  have HC := Lh (hM.c_int s2 x.kind _ (Lh HW.out.st) HO.out.kind (hM.mono HF.out (by omega)))
  have HF := Lh (hM.f_int (s := s2) (x := x.kind) (a := 42992010) (hM.mono HF.out (by omega)) HO.out.kind)
  generalize M.int s2 x.kind = r at *
  obtain ⟨s3, y3⟩ := r
  rw [bnd_mk] at HR
  simp only at HC HF
  refine HC.out.mono ?_
  rintro e w3 ⟨rfl, hs, hk⟩
  clear HC
  have K := Lh (K.out.call hk)
  have J := Lh (J.out.call hk)
  have I := Lh (I.out.call hk)
  have HX := Lh (HX.out.call hk)
  have HB := Lh (HB.out.call hk)
  have HW := Lh (HW.out.call hs hk)
  clear hs hk
  have cx2 := HX.out.blk.cell 2
  have fx := HX.out.blk.frozen
  have cx3 := HX.out.blk.cell 3
  have cx4 := HX.out.blk.cell 4
  have cx5 := HX.out.blk.cell 5
  have cx6 := HX.out.blk.cell 6
  have cx7 := HX.out.blk.cell 7
  have cx8 := HX.out.blk.cell 8
  have cx9 := HX.out.blk.cell 9
  have cx10 := HX.out.blk.cell 10
  have cx11 := HX.out.blk.cell 11
  have cx12 := HX.out.blk.cell 12
  have cx13 := HX.out.blk.cell 13
  have cx14 := HX.out.blk.cell 14
  have cx15 := HX.out.blk.cell 15
  have cx16 := HX.out.blk.cell 16
  have cx17 := HX.out.blk.cell 17
  have cx18 := HX.out.blk.cell 18
  go_wp2_with fail
  obtain ⟨v3, ew⟩ : ∃ v3, w3.setCell ⟨w.heap.size, 2, none⟩ (.int .i64 y3) = v3 := ⟨_, rfl⟩
  have hO := (Only.set_ w3 w.heap.size 2 (.int .i64 y3))
  have hB : Blk (w3.setCell ⟨w.heap.size, 2, none⟩ (.int .i64 y3)) w.heap.size 86 #[.int .u64 (y1 : Int), .int .u64 (y2 : Int), .int .i64 y3, .int .i64 x.cmd.kind, .int .u64 (x.cmd.client : Int), .int .u64 (x.cmd.seq : Int), .string (strOf x.cmd.key), .int .i64 x.cmd.size, .int .u32 (x.cmd.sum : Int), .int .u64 (x.cmd.version : Int), .int .u64 (x.cmd.epoch : Int), .int .i64 x.cmd.group, .int .i64 x.cmd.node, .bool x.cmd.up, .int .u64 (x.cmd.id.ver : Int), .int .i64 x.cmd.id.idx, .int .u64 (x.cmd.id.ep : Int), .int .u64 (x.cmd.mep : Int), .slice A x.cmd.mem.length c, .slice B x.voters.length d, .slice E x.learners.length f] := by have := (HX.out.blk.set_ 2 (.int .i64 y3)); simpa using this
  rw [ew] at hO hB ⊢
  have K := Lh (K.out.only hM HW.out.st hO HX.out.free aK.out)
  have J := Lh (J.out.only hM HW.out.st hO HX.out.free aJ.out)
  have I := Lh (I.out.only hM HW.out.st hO HX.out.free aI.out)
  have HB := Lh (HB.out.only hM HW.out.st hO HX.out.free (by omega))
  have HX1 := Lh (HX.out.turn hM HW.out.st hO hB)
  have HW := Lh (HW.out.only hM HX.out hO)
  have HX := HX1
  clear HX1 ew hO hB fx cx2 cx3 cx4 cx5 cx6 cx7 cx8 cx9 cx10 cx11 cx12 cx13 cx14 cx15 cx16 cx17 cx18
  have HC := Lh (pf_cmd M hM s3 A c x.cmd _ (Lh HW.out.st) (Lh K.out) HO.out.cmd KZ (Lh (hM.mono HF.out (by omega))))
  have HF := Lh (f_cmd hM (x := x.cmd) HO.out.cmd (a := 20971610) (hM.mono HF.out (by omega)))
  generalize cmdF M s3 x.cmd = r at *
  obtain ⟨s4, y4⟩ := r
  rw [bnd_mk] at HR
  simp only at HC HF
  refine HC.out.mono ?_
  rintro e w4 ⟨A4, c4, rfl, l0, hs, hk⟩
  clear HC
  unfold cmdCs
  have K := Lh (K.out.call hk)
  have J := Lh (J.out.call hk)
  have I := Lh (I.out.call hk)
  have L40 := Lh (l0.mono HB.out.free.lt)
  clear l0
  have HX := Lh (HX.out.call hk)
  have HB := Lh (HB.out.call hk)
  have HW := Lh (HW.out.call hs hk)
  clear hs hk
  have cx3 := HX.out.blk.cell 3
  have cx4 := HX.out.blk.cell 4
  have cx5 := HX.out.blk.cell 5
  have cx6 := HX.out.blk.cell 6
  have cx7 := HX.out.blk.cell 7
  have cx8 := HX.out.blk.cell 8
  have cx9 := HX.out.blk.cell 9
  have cx10 := HX.out.blk.cell 10
  have cx11 := HX.out.blk.cell 11
  have cx12 := HX.out.blk.cell 12
  have cx13 := HX.out.blk.cell 13
  have cx14 := HX.out.blk.cell 14
  have cx15 := HX.out.blk.cell 15
  have cx16 := HX.out.blk.cell 16
  have cx17 := HX.out.blk.cell 17
  have cx18 := HX.out.blk.cell 18
  have fx := HX.out.blk.frozen
  have cx19 := HX.out.blk.cell 19
  have cx20 := HX.out.blk.cell 20
  go_wp2_with fail
  obtain ⟨v4, ew⟩ : ∃ v4, (((((((((((((((w4.setCell ⟨w.heap.size, 3, none⟩ (.int .i64 y4.kind)).setCell ⟨w.heap.size, 4, none⟩ (.int .u64 (y4.client : Int))).setCell ⟨w.heap.size, 5, none⟩ (.int .u64 (y4.seq : Int))).setCell ⟨w.heap.size, 6, none⟩ (.string (strOf y4.key))).setCell ⟨w.heap.size, 7, none⟩ (.int .i64 y4.size)).setCell ⟨w.heap.size, 8, none⟩ (.int .u32 (y4.sum : Int))).setCell ⟨w.heap.size, 9, none⟩ (.int .u64 (y4.version : Int))).setCell ⟨w.heap.size, 10, none⟩ (.int .u64 (y4.epoch : Int))).setCell ⟨w.heap.size, 11, none⟩ (.int .i64 y4.group)).setCell ⟨w.heap.size, 12, none⟩ (.int .i64 y4.node)).setCell ⟨w.heap.size, 13, none⟩ (.bool y4.up)).setCell ⟨w.heap.size, 14, none⟩ (.int .u64 (y4.id.ver : Int))).setCell ⟨w.heap.size, 15, none⟩ (.int .i64 y4.id.idx)).setCell ⟨w.heap.size, 16, none⟩ (.int .u64 (y4.id.ep : Int))).setCell ⟨w.heap.size, 17, none⟩ (.int .u64 (y4.mep : Int))).setCell ⟨w.heap.size, 18, none⟩ (.slice A4 y4.mem.length c4) = v4 := ⟨_, rfl⟩
  have hO := ((((((((((((((((Only.set_ w4 w.heap.size 3 (.int .i64 y4.kind)).trans (Only.set_ (w4.setCell ⟨w.heap.size, 3, none⟩ (.int .i64 y4.kind)) w.heap.size 4 (.int .u64 (y4.client : Int)))).trans (Only.set_ ((w4.setCell ⟨w.heap.size, 3, none⟩ (.int .i64 y4.kind)).setCell ⟨w.heap.size, 4, none⟩ (.int .u64 (y4.client : Int))) w.heap.size 5 (.int .u64 (y4.seq : Int)))).trans (Only.set_ (((w4.setCell ⟨w.heap.size, 3, none⟩ (.int .i64 y4.kind)).setCell ⟨w.heap.size, 4, none⟩ (.int .u64 (y4.client : Int))).setCell ⟨w.heap.size, 5, none⟩ (.int .u64 (y4.seq : Int))) w.heap.size 6 (.string (strOf y4.key)))).trans (Only.set_ ((((w4.setCell ⟨w.heap.size, 3, none⟩ (.int .i64 y4.kind)).setCell ⟨w.heap.size, 4, none⟩ (.int .u64 (y4.client : Int))).setCell ⟨w.heap.size, 5, none⟩ (.int .u64 (y4.seq : Int))).setCell ⟨w.heap.size, 6, none⟩ (.string (strOf y4.key))) w.heap.size 7 (.int .i64 y4.size))).trans (Only.set_ (((((w4.setCell ⟨w.heap.size, 3, none⟩ (.int .i64 y4.kind)).setCell ⟨w.heap.size, 4, none⟩ (.int .u64 (y4.client : Int))).setCell ⟨w.heap.size, 5, none⟩ (.int .u64 (y4.seq : Int))).setCell ⟨w.heap.size, 6, none⟩ (.string (strOf y4.key))).setCell ⟨w.heap.size, 7, none⟩ (.int .i64 y4.size)) w.heap.size 8 (.int .u32 (y4.sum : Int)))).trans (Only.set_ ((((((w4.setCell ⟨w.heap.size, 3, none⟩ (.int .i64 y4.kind)).setCell ⟨w.heap.size, 4, none⟩ (.int .u64 (y4.client : Int))).setCell ⟨w.heap.size, 5, none⟩ (.int .u64 (y4.seq : Int))).setCell ⟨w.heap.size, 6, none⟩ (.string (strOf y4.key))).setCell ⟨w.heap.size, 7, none⟩ (.int .i64 y4.size)).setCell ⟨w.heap.size, 8, none⟩ (.int .u32 (y4.sum : Int))) w.heap.size 9 (.int .u64 (y4.version : Int)))).trans (Only.set_ (((((((w4.setCell ⟨w.heap.size, 3, none⟩ (.int .i64 y4.kind)).setCell ⟨w.heap.size, 4, none⟩ (.int .u64 (y4.client : Int))).setCell ⟨w.heap.size, 5, none⟩ (.int .u64 (y4.seq : Int))).setCell ⟨w.heap.size, 6, none⟩ (.string (strOf y4.key))).setCell ⟨w.heap.size, 7, none⟩ (.int .i64 y4.size)).setCell ⟨w.heap.size, 8, none⟩ (.int .u32 (y4.sum : Int))).setCell ⟨w.heap.size, 9, none⟩ (.int .u64 (y4.version : Int))) w.heap.size 10 (.int .u64 (y4.epoch : Int)))).trans (Only.set_ ((((((((w4.setCell ⟨w.heap.size, 3, none⟩ (.int .i64 y4.kind)).setCell ⟨w.heap.size, 4, none⟩ (.int .u64 (y4.client : Int))).setCell ⟨w.heap.size, 5, none⟩ (.int .u64 (y4.seq : Int))).setCell ⟨w.heap.size, 6, none⟩ (.string (strOf y4.key))).setCell ⟨w.heap.size, 7, none⟩ (.int .i64 y4.size)).setCell ⟨w.heap.size, 8, none⟩ (.int .u32 (y4.sum : Int))).setCell ⟨w.heap.size, 9, none⟩ (.int .u64 (y4.version : Int))).setCell ⟨w.heap.size, 10, none⟩ (.int .u64 (y4.epoch : Int))) w.heap.size 11 (.int .i64 y4.group))).trans (Only.set_ (((((((((w4.setCell ⟨w.heap.size, 3, none⟩ (.int .i64 y4.kind)).setCell ⟨w.heap.size, 4, none⟩ (.int .u64 (y4.client : Int))).setCell ⟨w.heap.size, 5, none⟩ (.int .u64 (y4.seq : Int))).setCell ⟨w.heap.size, 6, none⟩ (.string (strOf y4.key))).setCell ⟨w.heap.size, 7, none⟩ (.int .i64 y4.size)).setCell ⟨w.heap.size, 8, none⟩ (.int .u32 (y4.sum : Int))).setCell ⟨w.heap.size, 9, none⟩ (.int .u64 (y4.version : Int))).setCell ⟨w.heap.size, 10, none⟩ (.int .u64 (y4.epoch : Int))).setCell ⟨w.heap.size, 11, none⟩ (.int .i64 y4.group)) w.heap.size 12 (.int .i64 y4.node))).trans (Only.set_ ((((((((((w4.setCell ⟨w.heap.size, 3, none⟩ (.int .i64 y4.kind)).setCell ⟨w.heap.size, 4, none⟩ (.int .u64 (y4.client : Int))).setCell ⟨w.heap.size, 5, none⟩ (.int .u64 (y4.seq : Int))).setCell ⟨w.heap.size, 6, none⟩ (.string (strOf y4.key))).setCell ⟨w.heap.size, 7, none⟩ (.int .i64 y4.size)).setCell ⟨w.heap.size, 8, none⟩ (.int .u32 (y4.sum : Int))).setCell ⟨w.heap.size, 9, none⟩ (.int .u64 (y4.version : Int))).setCell ⟨w.heap.size, 10, none⟩ (.int .u64 (y4.epoch : Int))).setCell ⟨w.heap.size, 11, none⟩ (.int .i64 y4.group)).setCell ⟨w.heap.size, 12, none⟩ (.int .i64 y4.node)) w.heap.size 13 (.bool y4.up))).trans (Only.set_ (((((((((((w4.setCell ⟨w.heap.size, 3, none⟩ (.int .i64 y4.kind)).setCell ⟨w.heap.size, 4, none⟩ (.int .u64 (y4.client : Int))).setCell ⟨w.heap.size, 5, none⟩ (.int .u64 (y4.seq : Int))).setCell ⟨w.heap.size, 6, none⟩ (.string (strOf y4.key))).setCell ⟨w.heap.size, 7, none⟩ (.int .i64 y4.size)).setCell ⟨w.heap.size, 8, none⟩ (.int .u32 (y4.sum : Int))).setCell ⟨w.heap.size, 9, none⟩ (.int .u64 (y4.version : Int))).setCell ⟨w.heap.size, 10, none⟩ (.int .u64 (y4.epoch : Int))).setCell ⟨w.heap.size, 11, none⟩ (.int .i64 y4.group)).setCell ⟨w.heap.size, 12, none⟩ (.int .i64 y4.node)).setCell ⟨w.heap.size, 13, none⟩ (.bool y4.up)) w.heap.size 14 (.int .u64 (y4.id.ver : Int)))).trans (Only.set_ ((((((((((((w4.setCell ⟨w.heap.size, 3, none⟩ (.int .i64 y4.kind)).setCell ⟨w.heap.size, 4, none⟩ (.int .u64 (y4.client : Int))).setCell ⟨w.heap.size, 5, none⟩ (.int .u64 (y4.seq : Int))).setCell ⟨w.heap.size, 6, none⟩ (.string (strOf y4.key))).setCell ⟨w.heap.size, 7, none⟩ (.int .i64 y4.size)).setCell ⟨w.heap.size, 8, none⟩ (.int .u32 (y4.sum : Int))).setCell ⟨w.heap.size, 9, none⟩ (.int .u64 (y4.version : Int))).setCell ⟨w.heap.size, 10, none⟩ (.int .u64 (y4.epoch : Int))).setCell ⟨w.heap.size, 11, none⟩ (.int .i64 y4.group)).setCell ⟨w.heap.size, 12, none⟩ (.int .i64 y4.node)).setCell ⟨w.heap.size, 13, none⟩ (.bool y4.up)).setCell ⟨w.heap.size, 14, none⟩ (.int .u64 (y4.id.ver : Int))) w.heap.size 15 (.int .i64 y4.id.idx))).trans (Only.set_ (((((((((((((w4.setCell ⟨w.heap.size, 3, none⟩ (.int .i64 y4.kind)).setCell ⟨w.heap.size, 4, none⟩ (.int .u64 (y4.client : Int))).setCell ⟨w.heap.size, 5, none⟩ (.int .u64 (y4.seq : Int))).setCell ⟨w.heap.size, 6, none⟩ (.string (strOf y4.key))).setCell ⟨w.heap.size, 7, none⟩ (.int .i64 y4.size)).setCell ⟨w.heap.size, 8, none⟩ (.int .u32 (y4.sum : Int))).setCell ⟨w.heap.size, 9, none⟩ (.int .u64 (y4.version : Int))).setCell ⟨w.heap.size, 10, none⟩ (.int .u64 (y4.epoch : Int))).setCell ⟨w.heap.size, 11, none⟩ (.int .i64 y4.group)).setCell ⟨w.heap.size, 12, none⟩ (.int .i64 y4.node)).setCell ⟨w.heap.size, 13, none⟩ (.bool y4.up)).setCell ⟨w.heap.size, 14, none⟩ (.int .u64 (y4.id.ver : Int))).setCell ⟨w.heap.size, 15, none⟩ (.int .i64 y4.id.idx)) w.heap.size 16 (.int .u64 (y4.id.ep : Int)))).trans (Only.set_ ((((((((((((((w4.setCell ⟨w.heap.size, 3, none⟩ (.int .i64 y4.kind)).setCell ⟨w.heap.size, 4, none⟩ (.int .u64 (y4.client : Int))).setCell ⟨w.heap.size, 5, none⟩ (.int .u64 (y4.seq : Int))).setCell ⟨w.heap.size, 6, none⟩ (.string (strOf y4.key))).setCell ⟨w.heap.size, 7, none⟩ (.int .i64 y4.size)).setCell ⟨w.heap.size, 8, none⟩ (.int .u32 (y4.sum : Int))).setCell ⟨w.heap.size, 9, none⟩ (.int .u64 (y4.version : Int))).setCell ⟨w.heap.size, 10, none⟩ (.int .u64 (y4.epoch : Int))).setCell ⟨w.heap.size, 11, none⟩ (.int .i64 y4.group)).setCell ⟨w.heap.size, 12, none⟩ (.int .i64 y4.node)).setCell ⟨w.heap.size, 13, none⟩ (.bool y4.up)).setCell ⟨w.heap.size, 14, none⟩ (.int .u64 (y4.id.ver : Int))).setCell ⟨w.heap.size, 15, none⟩ (.int .i64 y4.id.idx)).setCell ⟨w.heap.size, 16, none⟩ (.int .u64 (y4.id.ep : Int))) w.heap.size 17 (.int .u64 (y4.mep : Int)))).trans (Only.set_ (((((((((((((((w4.setCell ⟨w.heap.size, 3, none⟩ (.int .i64 y4.kind)).setCell ⟨w.heap.size, 4, none⟩ (.int .u64 (y4.client : Int))).setCell ⟨w.heap.size, 5, none⟩ (.int .u64 (y4.seq : Int))).setCell ⟨w.heap.size, 6, none⟩ (.string (strOf y4.key))).setCell ⟨w.heap.size, 7, none⟩ (.int .i64 y4.size)).setCell ⟨w.heap.size, 8, none⟩ (.int .u32 (y4.sum : Int))).setCell ⟨w.heap.size, 9, none⟩ (.int .u64 (y4.version : Int))).setCell ⟨w.heap.size, 10, none⟩ (.int .u64 (y4.epoch : Int))).setCell ⟨w.heap.size, 11, none⟩ (.int .i64 y4.group)).setCell ⟨w.heap.size, 12, none⟩ (.int .i64 y4.node)).setCell ⟨w.heap.size, 13, none⟩ (.bool y4.up)).setCell ⟨w.heap.size, 14, none⟩ (.int .u64 (y4.id.ver : Int))).setCell ⟨w.heap.size, 15, none⟩ (.int .i64 y4.id.idx)).setCell ⟨w.heap.size, 16, none⟩ (.int .u64 (y4.id.ep : Int))).setCell ⟨w.heap.size, 17, none⟩ (.int .u64 (y4.mep : Int))) w.heap.size 18 (.slice A4 y4.mem.length c4)))
  have hB : Blk ((((((((((((((((w4.setCell ⟨w.heap.size, 3, none⟩ (.int .i64 y4.kind)).setCell ⟨w.heap.size, 4, none⟩ (.int .u64 (y4.client : Int))).setCell ⟨w.heap.size, 5, none⟩ (.int .u64 (y4.seq : Int))).setCell ⟨w.heap.size, 6, none⟩ (.string (strOf y4.key))).setCell ⟨w.heap.size, 7, none⟩ (.int .i64 y4.size)).setCell ⟨w.heap.size, 8, none⟩ (.int .u32 (y4.sum : Int))).setCell ⟨w.heap.size, 9, none⟩ (.int .u64 (y4.version : Int))).setCell ⟨w.heap.size, 10, none⟩ (.int .u64 (y4.epoch : Int))).setCell ⟨w.heap.size, 11, none⟩ (.int .i64 y4.group)).setCell ⟨w.heap.size, 12, none⟩ (.int .i64 y4.node)).setCell ⟨w.heap.size, 13, none⟩ (.bool y4.up)).setCell ⟨w.heap.size, 14, none⟩ (.int .u64 (y4.id.ver : Int))).setCell ⟨w.heap.size, 15, none⟩ (.int .i64 y4.id.idx)).setCell ⟨w.heap.size, 16, none⟩ (.int .u64 (y4.id.ep : Int))).setCell ⟨w.heap.size, 17, none⟩ (.int .u64 (y4.mep : Int))).setCell ⟨w.heap.size, 18, none⟩ (.slice A4 y4.mem.length c4)) w.heap.size 86 #[.int .u64 (y1 : Int), .int .u64 (y2 : Int), .int .i64 y3, .int .i64 y4.kind, .int .u64 (y4.client : Int), .int .u64 (y4.seq : Int), .string (strOf y4.key), .int .i64 y4.size, .int .u32 (y4.sum : Int), .int .u64 (y4.version : Int), .int .u64 (y4.epoch : Int), .int .i64 y4.group, .int .i64 y4.node, .bool y4.up, .int .u64 (y4.id.ver : Int), .int .i64 y4.id.idx, .int .u64 (y4.id.ep : Int), .int .u64 (y4.mep : Int), .slice A4 y4.mem.length c4, .slice B x.voters.length d, .slice E x.learners.length f] := by have := ((((((((((((((((HX.out.blk.set_ 3 (.int .i64 y4.kind)).set_ 4 (.int .u64 (y4.client : Int))).set_ 5 (.int .u64 (y4.seq : Int))).set_ 6 (.string (strOf y4.key))).set_ 7 (.int .i64 y4.size)).set_ 8 (.int .u32 (y4.sum : Int))).set_ 9 (.int .u64 (y4.version : Int))).set_ 10 (.int .u64 (y4.epoch : Int))).set_ 11 (.int .i64 y4.group)).set_ 12 (.int .i64 y4.node)).set_ 13 (.bool y4.up)).set_ 14 (.int .u64 (y4.id.ver : Int))).set_ 15 (.int .i64 y4.id.idx)).set_ 16 (.int .u64 (y4.id.ep : Int))).set_ 17 (.int .u64 (y4.mep : Int))).set_ 18 (.slice A4 y4.mem.length c4)); simpa using this
  rw [ew] at hO hB ⊢
  have K := Lh (K.out.only hM HW.out.st hO HX.out.free aK.out)
  have J := Lh (J.out.only hM HW.out.st hO HX.out.free aJ.out)
  have I := Lh (I.out.only hM HW.out.st hO HX.out.free aI.out)
  have L40 := Lh (L40.out.only hM HW.out.st hO HX.out.free (by omega))
  have HB := Lh (HB.out.only hM HW.out.st hO HX.out.free (by omega))
  have HX1 := Lh (HX.out.turn hM HW.out.st hO hB)
  have HW := Lh (HW.out.only hM HX.out hO)
  have HX := HX1
  clear HX1 ew hO hB fx cx3 cx4 cx5 cx6 cx7 cx8 cx9 cx10 cx11 cx12 cx13 cx14 cx15 cx16 cx17 cx18 cx19 cx20
  have HC := Lh (pf_conf M hM s4 B d E f (x.voters, x.learners) _ (Lh HW.out.st) (Lh J.out) (Lh I.out) ⟨HO.out.vot, HO.out.lea⟩ JZ IZ (Lh (hM.mono HF.out (by omega))))
  have HF := Lh (f_conf hM (x := (x.voters, x.learners)) ⟨HO.out.vot, HO.out.lea⟩ (a := 20) (hM.mono HF.out (by omega)))
  generalize confF M s4 (x.voters, x.learners) = r at *
  obtain ⟨s5, y5⟩ := r
  rw [bnd_mk] at HR
  simp only at HC HF
  refine HC.out.mono ?_
  rintro e w5 ⟨A5, c5, B5, d5, rfl, l0, l1, hs, hk⟩
  clear HC
  have K := Lh (K.out.call hk)
  have J := Lh (J.out.call hk)
  have I := Lh (I.out.call hk)
  have L40 := Lh (L40.out.call hk)
  have L50 := Lh (l0.mono HB.out.free.lt)
  clear l0
  have L51 := Lh (l1.mono HB.out.free.lt)
  clear l1
  have HX := Lh (HX.out.call hk)
  have HB := Lh (HB.out.call hk)
  have HW := Lh (HW.out.call hs hk)
  clear hs hk
  have cx19 := HX.out.blk.cell 19
  have cx20 := HX.out.blk.cell 20
  have fx := HX.out.blk.frozen
  have hO := ((Only.set_ w5 w.heap.size 19 (.slice A5 y5.1.length c5)).trans (Only.set_ (w5.setCell ⟨w.heap.size, 19, none⟩ (.slice A5 y5.1.length c5)) w.heap.size 20 (.slice B5 y5.2.length d5)))
  have hB : Blk ((w5.setCell ⟨w.heap.size, 19, none⟩ (.slice A5 y5.1.length c5)).setCell ⟨w.heap.size, 20, none⟩ (.slice B5 y5.2.length d5)) w.heap.size 86 #[.int .u64 (y1 : Int), .int .u64 (y2 : Int), .int .i64 y3, .int .i64 y4.kind, .int .u64 (y4.client : Int), .int .u64 (y4.seq : Int), .string (strOf y4.key), .int .i64 y4.size, .int .u32 (y4.sum : Int), .int .u64 (y4.version : Int), .int .u64 (y4.epoch : Int), .int .i64 y4.group, .int .i64 y4.node, .bool y4.up, .int .u64 (y4.id.ver : Int), .int .i64 y4.id.idx, .int .u64 (y4.id.ep : Int), .int .u64 (y4.mep : Int), .slice A4 y4.mem.length c4, .slice A5 y5.1.length c5, .slice B5 y5.2.length d5] := by have := ((HX.out.blk.set_ 19 (.slice A5 y5.1.length c5)).set_ 20 (.slice B5 y5.2.length d5)); simpa using this
  have K := Lh (K.out.only hM HW.out.st hO HX.out.free aK.out)
  have J := Lh (J.out.only hM HW.out.st hO HX.out.free aJ.out)
  have I := Lh (I.out.only hM HW.out.st hO HX.out.free aI.out)
  have L40 := Lh (L40.out.only hM HW.out.st hO HX.out.free (by omega))
  have L50 := Lh (L50.out.only hM HW.out.st hO HX.out.free (by omega))
  have L51 := Lh (L51.out.only hM HW.out.st hO HX.out.free (by omega))
  have HB := Lh (HB.out.only hM HW.out.st hO HX.out.free (by omega))
  have HX1 := Lh (HX.out.turn hM HW.out.st hO hB)
  have HW := Lh (HW.out.only hM HX.out hO)
  have HX := HX1
  clear HX1 hO hB
  go_wp2_with (first | (refine wpl_load_blk rfl 86 (.tmp 3) rfl w.heap.size 86 _ _ rfl HX.out.blk Tryz.underlying86 rfl Tryz.sizeE ?_) | (refine wpl_store_blk rfl 86 (.tmp 4) (.tmp 30) rfl (w.heap.size + 1) 86 _ #[.int .u64 (y1 : Int), .int .u64 (y2 : Int), .int .i64 y3, .int .i64 y4.kind, .int .u64 (y4.client : Int), .int .u64 (y4.seq : Int), .string (strOf y4.key), .int .i64 y4.size, .int .u32 (y4.sum : Int), .int .u64 (y4.version : Int), .int .u64 (y4.epoch : Int), .int .i64 y4.group, .int .i64 y4.node, .bool y4.up, .int .u64 (y4.id.ver : Int), .int .i64 y4.id.idx, .int .u64 (y4.id.ep : Int), .int .u64 (y4.mep : Int), .slice A4 y4.mem.length c4, .slice A5 y5.1.length c5, .slice B5 y5.2.length d5] rfl rfl HB.out.blk rfl Tryz.sizeE rfl ?_; intro wf hB hO))
  have L40 := Lh (L40.out.only hM HW.out.st hO.out HB.out.free (by omega))
  have L50 := Lh (L50.out.only hM HW.out.st hO.out HB.out.free (by omega))
  have L51 := Lh (L51.out.only hM HW.out.st hO.out HB.out.free (by omega))
  have HW := Lh (HW.out.only hM HB.out hO.out)
  refine bodyPost_ret (v := .agg #[.int .u64 (y1 : Int), .int .u64 (y2 : Int), .int .i64 y3, .int .i64 y4.kind, .int .u64 (y4.client : Int), .int .u64 (y4.seq : Int), .string (strOf y4.key), .int .i64 y4.size, .int .u32 (y4.sum : Int), .int .u64 (y4.version : Int), .int .u64 (y4.epoch : Int), .int .i64 y4.group, .int .i64 y4.node, .bool y4.up, .int .u64 (y4.id.ver : Int), .int .i64 y4.id.idx, .int .u64 (y4.id.ep : Int), .int .u64 (y4.mep : Int), .slice A4 y4.mem.length c4, .slice A5 y5.1.length c5, .slice B5 y5.2.length d5]) (res_c Tryz.results92 rfl (load_blk hB.out Tryz.underlying86 rfl Tryz.sizeE)) rfl ?_
  rw [HR.out]
  exact ⟨A4, c4, A5, c5, B5, d5, rfl, L40.out.mono (by omega), L50.out.mono (by omega), L51.out.mono (by omega), HW.out.st, HW.out.stp⟩
end Go.Proofs.YtijdbdenmcjmmaaGreatDoor
end
