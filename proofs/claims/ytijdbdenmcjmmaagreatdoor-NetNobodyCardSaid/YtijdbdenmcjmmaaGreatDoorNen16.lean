/-
  THE REFERENCE'S P, READING OR WRITING: maps. (printed by gen_paq6.py). (joined out of PaQ6 by shake.py)
-/
import Derived.Test.YtijdbdenmcjmmaaGreatDoorNen15
import Derived.Test.YtijdbdenmcjmmaaGreatDoorNen08
section
namespace Go.Proofs.YtijdbdenmcjmmaaGreatDoor
open Go.RowKit OctMath
set_option linter.unusedVariables false
variable {σ : Type}
theorem Gr.list2 {M : Md σ} {w0 w1 wr : World} {t : TypeId} {size : Nat} {v : Value} {k : Nat} {xs : List Value} {s : σ} (h : Gr M w0 w1 t size v k xs s wr) : ∃ A1 c1, v = .slice A1 k c1 ∧ Lx M w1.heap.size size A1 c1 k xs wr := by
  obtain ⟨A1, c1, rfl, h1, h2⟩ := own_slice h.own
  refine ⟨A1, c1, rfl, ⟨Reads.of_own h.own, fun hk ad e => ?_⟩, fun hk ad e => ?_, h1, h2⟩
  · rcases h.own.2 with ⟨e', h0⟩ | ⟨b, c, cur, e', hb, -⟩
    · omega
    · injection e' with e' _ _
      rw [e] at e'
      obtain rfl := Option.some.inj e'
      exact h.free b (by rw [e]; rfl)
  · rcases h.own.2 with ⟨e', h0⟩ | ⟨b, c, cur, e', hb, -⟩
    · omega
    · injection e' with e' _ _
      rw [e] at e'
      obtain rfl := Option.some.inj e'
      exact hb
theorem Gr.off {M : Md σ} {w0 w1 wr : World} {t : TypeId} {size : Nat} {v : Value} {k : Nat} {xs : List Value} {s : σ} (h : Gr M w0 w1 t size v k xs s wr) {x : Nat} (hx : wr.heap.size ≤ x) : v.ownBlock ≠ some x := fun e => by have := (h.free x e).lt; omega
theorem set_same_w {w : World} {g : Nat} {t : TypeId} {cs : Array Value} {i : Nat} {u : Value} (h : Blk w g t cs) (hi : cs[i]? = some u) : w.setCell ⟨g, i, none⟩ u = w := by
  rw [setCell_eq_setRow w g i cs t (0, 0) u h]
  have e : cs.setIfInBounds i u = cs := by
    apply Array.ext_getElem?
    intro j
    rw [Array.getElem?_setIfInBounds]
    split
    · rename_i hij; subst hij; rw [hi]; split
      · rfl
      · rename_i hl; rw [Array.getElem?_eq_none (by omega)] at hi; cases hi
    · rfl
  rw [e]
  exact setRow_self w g cs t (0, 0) h
theorem mcells_get1 {l : List (Int × Int)} {k : Nat} (h : k < l.length) : (mcells l)[k * 2]? = some (iv (l.getD k (0, 0)).1) ∧ (mcells l)[k * 2 + 1]? = some (iv (l.getD k (0, 0)).2) := by
  induction l generalizing k with
  | nil => simp at h
  | cons p l ih =>
    cases k with
    | zero => exact ⟨rfl, rfl⟩
    | succ k =>
      have := ih (k := k) (by simpa using h)
      have e1 : mcells (p :: l) = iv p.1 :: iv p.2 :: mcells l := rfl
      rw [e1, show (k + 1) * 2 = k * 2 + 1 + 1 by omega]
      exact this
theorem addr_next (a : Addr) (k : Nat) : a.add (k + 1) = { block := (a.add k).block, off := (a.add k).off + 1 } := by
  unfold Addr.add
  by_cases h : k = 0
  · subst h; simp
  · simp [h]; omega
theorem getD_mem {l : List (Int × Int)} (h : ∀ x ∈ l, MemOk x) (i : Nat) : MemOk (l.getD i (0, 0)) := by
  rw [List.getD_eq_getElem?_getD]
  cases e : l[i]? with
  | none => exact ⟨⟨by decide, by decide⟩, ⟨by decide, by decide⟩⟩
  | some x => exact h x (List.mem_of_getElem? e)
theorem f_mem {M : Md σ} (hM : MdOk M) {s : σ} {a : Nat} {x : Int × Int} (HO : MemOk x) (h : M.fit s (a + 20)) : M.fit (memF M s x).1 a := by
  have h1 := hM.f_int (s := s) (a := a + 10) (x := x.1) (hM.mono h (by omega)) HO.1
  show M.fit (bnd (M.int s x.1) fun s1 y1 => bnd (M.int s1 x.2) fun s2 y2 => (s2, (y1, y2)) : σ × (Int × Int)).1 a
  generalize M.int s x.1 = r at *
  obtain ⟨s1, y1⟩ := r
  rw [bnd_mk]
  exact hM.f_int h1 HO.2
theorem f_mems {M : Md σ} (hM : MdOk M) {s : σ} {a : Nat} {l : List (Int × Int)} (hl : l.length ≤ 1048576) (hI : ∀ i, MemOk (l.getD i (0, 0))) (h : M.fit s (a + 20971530)) : M.fit (memsF M s l).1 a := by
  have h1 := hM.f_len (s := s) (a := a + 20971520) (x := l.length) h (by omega)
  have h2 := hM.r_len (s := s) (x := l.length) hl
  exact itF_fit hM (one := memF M) (arg := fun i => l.getD i (0, 0)) (c := 20) (fun s i a h => f_mem hM (hI i) h) _ a (hM.mono h1 (by omega))
theorem f_map {M : Md σ} (hM : MdOk M) {s : σ} {a : Nat} {x : Nat × List (Int × Int)} (HO : MapOk x) (h : M.fit s (a + 20971540)) : M.fit (mapF M s x).1 a := by
  have h1 := hM.f_u64 (s := s) (a := a + 20971530) (x := x.1) (hM.mono h (by omega)) HO.1
  show M.fit (bnd (M.u64 s x.1) fun s1 y1 => bnd (memsF M s1 x.2) fun s2 y2 => (s2, (y1, y2)) : σ × (Nat × List (Int × Int))).1 a
  generalize M.u64 s x.1 = r at *
  obtain ⟨s1, y1⟩ := r
  rw [bnd_mk]
  exact f_mems hM HO.2.2 (getD_mem HO.2.1) h1
def RetMp (M : Md σ) (s' : σ) (y : Nat × List (Int × Int)) (w : World) (e : Ending) (w' : World) : Prop :=
  ∃ A c, e = .returned (.agg #[.int .u64 (y.1 : Int), .slice A y.2.length c]) ∧ Lx M w.heap.size 2 A c y.2.length (mcells y.2) w' ∧ M.St s' w' ∧ Stp M w w'
set_option maxRecDepth 100000 in
set_option maxHeartbeats 8000000 in
theorem pf_map (M : Md σ) (hM : MdOk M) (s : σ) (A : Option Addr) (cap : Nat) (x : Nat × List (Int × Int)) (w : World) (hS : Hid (M.St s w)) (hL : Hid (Ls M 2 A x.2.length (mcells x.2) w)) (HO : MapOk x) (hz : Hid (M.write = false → x.2 = [])) (hf : Hid (M.fit s 20971550)) :
    Calls Tryz.prog 114 #[.pointer (some ⟨M.g, 0, none⟩), .agg #[.int .u64 (x.1 : Int), .slice A x.2.length cap]] w (RetMp M (mapF M s x).1 (mapF M s x).2 w) := by
  obtain ⟨ep, l⟩ := x
  obtain ⟨n, hn⟩ : ∃ n, l.length = n := ⟨_, rfl⟩
  have HN := Lh hn
  obtain ⟨ho1, ho2, ho3⟩ := HO
  simp only at hL hz ho1 ho2 ho3 ⊢
  rw [hn] at hL ho3 ⊢
  have HM := Lh ho2
  clear ho2 hn
  have HR := Lh (show mapF M s (ep, l) = bnd (M.u64 s ep) fun s1 y1 => bnd (memsF M s1 l) fun s2 y2 => (s2, (y1, y2)) from rfl)
  have HF := Lh hf.out
  obtain ⟨b, hb⟩ : ∃ b, w.heap.size = b := ⟨_, rfl⟩
  have HBW := Lh hb
  obtain ⟨w0, ew0⟩ : ∃ w0, ((w.alloc (.cells #[.int .u64 (ep : Int), .slice A n cap] 82)).alloc (.cells #[.int .u64 0, .slice none 0 0] 82)) = w0 := ⟨_, rfl⟩
  have hwa := (Wk.start hS.out).alloc hM (.cells #[.int .u64 (ep : Int), .slice A n cap] 82)
  have hx := (Bk.new hM (Wk.start hS.out) #[.int .u64 (ep : Int), .slice A n cap] 82).alloc hM hwa.st (.cells #[.int .u64 0, .slice none 0 0] 82)
  have hr : Bk M w (b + 1) 82 #[.int .u64 0, .slice none 0 0] ((w.alloc (.cells #[.int .u64 (ep : Int), .slice A n cap] 82)).alloc (.cells #[.int .u64 0, .slice none 0 0] 82)) := by have := Bk.new hM hwa #[.int .u64 0, .slice none 0 0] 82; rw [← hb]; simpa using this
  have hw := hwa.alloc hM (.cells #[.int .u64 0, .slice none 0 0] 82)
  have hK1 := (hL.out.alloc hM hS.out (.cells #[.int .u64 (ep : Int), .slice A n cap] 82)).alloc hM hwa.st (.cells #[.int .u64 0, .slice none 0 0] 82)
  have aK := Lh (hL.out.apart (Nat.le_refl _))
  rw [ew0] at hx hr hw hK1
  rw [hb] at hx aK
  have HX := Lh hx
  have HB := Lh hr
  have HW := Lh hw
  have HK := Lh hK1
  clear hx hr hw hwa hK1
  have cx0 := HX.out.blk.cell 0
  go_enter Tryz.func114, Tryz.ntmps114
  go_wp2_with fail
  clear ew0 cx0
  have HC := Lh (hM.c_u64 s ep _ (Lh HW.out.st) ho1 (hM.mono HF.out (by omega)))
  have HF := Lh (hM.f_u64 (s := s) (a := 20971540) (x := ep) (hM.mono HF.out (by omega)) ho1)
  generalize M.u64 s ep = r at *
  obtain ⟨s1, y1⟩ := r
  rw [bnd_mk] at HR
  simp only at HC HF
  refine HC.out.mono ?_
  rintro e w1 ⟨rfl, hs, hk⟩
  clear HC
  have HK := Lh (HK.out.call hk)
  have HX := Lh (HX.out.call hk)
  have HB := Lh (HB.out.call hk)
  have HW := Lh (HW.out.call hs hk)
  clear hs hk
  have cx0 := HX.out.blk.cell 0
  have cx1 := HX.out.blk.cell 1
  have fx := HX.out.blk.frozen
  go_wp2_with fail
  obtain ⟨v1, ew⟩ : ∃ v1, w1.setCell ⟨b, 0, none⟩ (.int .u64 (y1 : Int)) = v1 := ⟨_, rfl⟩
  have hO := Only.set_ w1 b 0 (.int .u64 (y1 : Int))
  have hB : Blk (w1.setCell ⟨b, 0, none⟩ (.int .u64 (y1 : Int))) b 82 #[.int .u64 (y1 : Int), .slice A n cap] := by have := HX.out.blk.set_ 0 (.int .u64 (y1 : Int)); simpa using this
  rw [ew] at hO hB ⊢
  have HK := Lh (HK.out.only hM HW.out.st hO HX.out.free aK.out)
  have HB := Lh (HB.out.only hM HW.out.st hO HX.out.free (by omega))
  have HX1 := Lh (HX.out.turn hM HW.out.st hO hB)
  have HW := Lh (HW.out.only hM HX.out hO)
  have HX := HX1
  clear HX1 ew hO hB fx cx0 cx1
  have HC := Lh (hM.c_len s1 n _ (Lh HW.out.st) (by omega) (hM.mono HF.out (by omega)))
  have HF := Lh (hM.f_len (s := s1) (a := 20971530) (x := n) (hM.mono HF.out (by omega)) (by omega))
  have hm := hM.r_len (s := s1) (x := n) ho3
  have HWL := Lh (fun h => hM.wlen h s1 n)
  have HR2 := Lh (show memsF M s1 l = itF M (memF M) (fun i => l.getD i (0, 0)) (M.len s1 l.length).2 (M.len s1 l.length).1 from rfl)
  rw [HN.out] at HR2
  generalize M.len s1 n = r at *
  obtain ⟨s2, m⟩ := r
  simp only at HC HF hm HWL HR2
  refine HC.out.mono ?_
  rintro e w2 ⟨rfl, hs, hk⟩
  clear HC
  have HK := Lh (HK.out.call hk)
  have HX := Lh (HX.out.call hk)
  have HB := Lh (HB.out.call hk)
  have HW := Lh (HW.out.call hs hk)
  clear hs hk
  have HA := Lh (show 0 < n → ∀ ad, A = some ad → ad.block < w2.heap.size from fun h ad e => (HK.out.free h ad e).lt)
  have HBL := Lh HB.out.free.lt
  have HG0 := Lh (Gr.start 214 2 HW.out)
  go_wp2
  clear hb
  go_loopw [6, 7, 8] (fun vo vi _ wr => ∃ (k : Nat) (s' : σ) (ys : List (Int × Int)), k ≤ m ∧ vi = .int .i64 k ∧ Hid (itF M (memF M) (fun i => l.getD i (0, 0)) k s2 = (s', ys)) ∧ Hid (Gr M w w2 214 2 vo k (mcells ys) s' wr) ∧ Hid (ys.length = k) ∧ Hid (Ls M 2 A n (mcells l) wr) ∧ Hid (Bk M w b 82 #[.int .u64 (y1 : Int), .slice A n cap] wr) ∧ Hid (Bk M w (b + 1) 82 #[.int .u64 0, .slice none 0 0] wr)) (fun _ vi _ _ => m - (intOf vi).toNat)
  case atStart => exact ⟨0, s2, [], by omega, rfl, Lh rfl, HG0, Lh rfl, HK, HX, HB⟩
  case round =>
    obtain ⟨k, s', ys, hk, rfl, hT, hG, hlen, hLr, hX, hB⟩ := hrel
    clear HG0 HK HX HB HW
    have hcw := hM.cwrite hG.out.wk.st
    have hcb := hM.cbad hG.out.wk.st
    by_cases hlt : k < m
    · have d1 : decide (k < m) = true := decide_eq_true hlt
      cases hbad : M.bad s' with
      | true =>
        rw [hbad] at hcb
        have hbb : M.bad (itF M (memF M) (fun i => l.getD i (0, 0)) k s2).1 = true := by rw [hT.out]; exact hbad
        have HE := Lh ((HR2.out.trans (itF_bad hbb hk)).trans hT.out)
        clear hbad hbb
        obtain ⟨A1, c1, rfl, hl1⟩ := hG.out.list2
        have hL1 := Lh hl1
        have p1 := hX.out.blk.cell 1
        have p2 := hX.out.blk.frozen 1
        obtain ⟨w3, ew3⟩ : ∃ w3, wr.setCell ⟨b, 1, none⟩ (.slice A1 k c1) = w3 := ⟨_, rfl⟩
        have hO := Only.set_ wr b 1 (.slice A1 k c1)
        have hB3 : Blk (wr.setCell ⟨b, 1, none⟩ (.slice A1 k c1)) b 82 #[.int .u64 (y1 : Int), .slice A1 k c1] := by have := hX.out.blk.set_ 1 (.slice A1 k c1); simpa using this
        rw [ew3] at hO hB3
        have h2 := HBL.out
        have L3 := Lh (hL1.out.only hM hG.out.wk.st hO hX.out.free (by omega))
        have Q3 := Lh (hB.out.only hM hG.out.wk.st hO hX.out.free (by omega))
        have P3 := Lh (hX.out.turn hM hG.out.wk.st hO hB3)
        have W3 := Lh (hG.out.wk.only hM hX.out hO)
        clear hO hB3 h2 hl1
        go_wp2_with (first | (refine wpl_load_blk rfl 82 (.tmp 3) rfl b 82 _ _ rfl P3.out.blk Tryz.underlying82 rfl Tryz.sizeMa ?_) | (refine wpl_store_blk rfl 82 (.tmp 4) (.tmp 57) rfl (b + 1) 82 _ #[.int .u64 (y1 : Int), .slice A1 k c1] rfl rfl Q3.out.blk rfl Tryz.sizeMa rfl ?_; intro wf hB5 hO5))
        have h2 := HBL.out
        have L5 := Lh (L3.out.only hM W3.out.st hO5.out Q3.out.free h2)
        have W5 := Lh (W3.out.only hM Q3.out hO5.out)
        refine bodyPost_ret (v := .agg #[.int .u64 (y1 : Int), .slice A1 k c1]) (res_c Tryz.results114 rfl (load_blk hB5.out Tryz.underlying82 rfl Tryz.sizeMa)) rfl ?_
        rw [HR.out, HE.out, bnd_mk]
        refine ⟨A1, c1, ?_, ?_, W5.out.st, W5.out.stp⟩
        · simp only; rw [hlen.out]
        · simp only; rw [hlen.out]; exact L5.out.mono (by have := HBW.out; omega)
      | false =>
        rw [hbad] at hcb
        have HT1 := Lh (itF_more hT.out hbad)
        have hfk := itF_fit hM (one := memF M) (arg := fun i => l.getD i (0, 0)) (c := 20) (fun s i a h => f_mem hM (getD_mem HM.out i) h) k 20 (hM.mono HF.out (by omega))
        rw [hT.out] at hfk
        have HFK := Lh hfk
        have HMK := Lh (getD_mem HM.out k)
        clear hbad hfk
        obtain ⟨x, hx⟩ : ∃ x, wr.heap.size = x := ⟨_, rfl⟩
        obtain ⟨w4, ew4⟩ : ∃ w4, wr.alloc (.cells #[.int .i64 0, .int .i64 0] 214) = w4 := ⟨_, rfl⟩
        have hX4 := Bk.new hM hG.out.wk #[.int .i64 0, .int .i64 0] 214
        have hG4 := hG.out.alloc hM (.cells #[.int .i64 0, .int .i64 0] 214)
        have hL4 := hLr.out.alloc hM hG.out.wk.st (.cells #[.int .i64 0, .int .i64 0] 214)
        have hP4 := hX.out.alloc hM hG.out.wk.st (.cells #[.int .i64 0, .int .i64 0] 214)
        have hQ4 := hB.out.alloc hM hG.out.wk.st (.cells #[.int .i64 0, .int .i64 0] 214)
        have hof := Lh (hG.out.off (Nat.le_refl _))
        have hap := Lh (hLr.out.apart (Nat.le_refl _))
        have hbx := Lh (show b + 1 < wr.heap.size from hB.out.free.lt)
        rw [ew4] at hX4 hG4 hL4 hP4 hQ4
        rw [hx] at hX4 hof hap hbx
        have hbx' := hbx.out
        have y0 := hX4.blk.cell 0
        have y1' := hX4.blk.cell 1
        have y2 := hX4.blk.frozen 0
        have y3 := hX4.blk.frozen 1
        have hz0 : w4.setCell ⟨x, 0, none⟩ (.int .i64 0) = w4 := set_same_w hX4.blk rfl
        have hz1 : w4.setCell ⟨x, 1, none⟩ (.int .i64 0) = w4 := set_same_w hX4.blk rfl
        have xm := hP4.blk.cell 1
        have pw := hM.cwrite hG4.wk.st
        have X4 := Lh hX4
        have G4 := Lh hG4
        have L4 := Lh hL4
        have P4 := Lh hP4
        have Q4 := Lh hQ4
        clear hX4 hG4 hL4 hP4 hQ4
        cases hw : M.write with
        | true =>
          rw [hw] at pw hcw
          obtain rfl := HWL.out hw
          obtain ⟨ad, hA, hbl, hc⟩ := L4.out.rd.2 (by omega : 0 < m)
          subst hA
          obtain ⟨hc1, hc2⟩ := mcells_get1 (l := l) (k := k) (by have := HN.out; omega)
          have hc3 := hc _ _ hc1
          have hc4 := hc _ _ hc2
          have hc4 : w4.cell? { block := (ad.add (k * 2)).block, off := (ad.add (k * 2)).off + 1 } = some (iv (l.getD k (0, 0)).2) := by rw [← addr_next]; exact hc4
          obtain ⟨p, hp⟩ : ∃ p, l.getD k (0, 0) = p := ⟨_, rfl⟩
          rw [hp] at hc3 hc4 HT1 HMK
          obtain ⟨mid, wt⟩ := p
          unfold iv at hc3 hc4
          simp only at hc3 hc4
          clear hp hw hc hbl hc1 hc2
          obtain ⟨w5, ew5⟩ : ∃ w5, (w4.setCell ⟨x, 0, none⟩ (.int .i64 mid)).setCell ⟨x, 1, none⟩ (.int .i64 wt) = w5 := ⟨_, rfl⟩
          have hO := (Only.set_ w4 x 0 (.int .i64 mid)).trans (Only.set_ (w4.setCell ⟨x, 0, none⟩ (.int .i64 mid)) x 1 (.int .i64 wt))
          have hB5 : Blk ((w4.setCell ⟨x, 0, none⟩ (.int .i64 mid)).setCell ⟨x, 1, none⟩ (.int .i64 wt)) x 214 #[.int .i64 mid, .int .i64 wt] := by have := (X4.out.blk.set_ 0 (.int .i64 mid)).set_ 1 (.int .i64 wt); simpa using this
          rw [ew5] at hO hB5
          have G5 := Lh (G4.out.only hM X4.out hO hof.out)
          have X5 := Lh (X4.out.turn hM G4.out.wk.st hO hB5)
          have L5 := Lh (L4.out.only hM G4.out.wk.st hO X4.out.free hap.out)
          have P5 := Lh (P4.out.only hM G4.out.wk.st hO X4.out.free (by omega))
          have Q5 := Lh (Q4.out.only hM G4.out.wk.st hO X4.out.free (by omega))
          clear hO hB5
          have q0 := X5.out.blk.cell 0
          have q1 := X5.out.blk.cell 1
          have q2 := X5.out.blk.frozen 0
          have HR3 := Lh (show memF M s' (mid, wt) = bnd (M.int s' mid) fun s1 y1 => bnd (M.int s1 wt) fun s2 y2 => (s2, (y1, y2)) from rfl)
          have HC1 := Lh (hM.c_int s' mid w5 (Lh G5.out.wk.st) HMK.out.1 (hM.mono HFK.out (by omega)))
          have HF1 := Lh (hM.f_int (s := s') (a := 10) (x := mid) HFK.out HMK.out.1)
          generalize M.int s' mid = r at *
          obtain ⟨s3, z1⟩ := r
          simp only at HC1 HF1
          rw [bnd_mk] at HR3
          have HC2 := Lh (fun W hW => hM.c_int s3 wt W hW HMK.out.2 HF1.out)
          generalize M.int s3 wt = r at *
          obtain ⟨s4, z2⟩ := r
          simp only at HC2
          rw [bnd_mk] at HR3
          rw [HR3.out] at HT1
          simp only at HT1
          have tk1 : True := trivial
          go_wp2_with (first
            | (have _t := tk1; go_at_call 59; refine HC1.out.mono ?_; rintro en w6 ⟨rfl, hs6, hk6⟩
               have G6 := Lh (G5.out.call hs6 hk6)
               have X6 := Lh (X5.out.call hk6)
               have L6 := Lh (L5.out.call hk6)
               have P6 := Lh (P5.out.call hk6)
               have Q6 := Lh (Q5.out.call hk6)
               clear q0 q1 q2 ew5 ew4 xm pw hcw hc3 hc4 y0 y1' y2 y3 hz0 hz1
               have q0 := X6.out.blk.cell 0
               have q2 := X6.out.blk.frozen 0
               obtain ⟨w7, ew7⟩ : ∃ w7, w6.setCell ⟨x, 0, none⟩ (.int .i64 z1) = w7 := ⟨_, rfl⟩
               have hO := Only.set_ w6 x 0 (.int .i64 z1)
               have hB7 : Blk (w6.setCell ⟨x, 0, none⟩ (.int .i64 z1)) x 214 #[.int .i64 z1, .int .i64 wt] := (by have := X6.out.blk.set_ 0 (.int .i64 z1); simpa using this)
               rw [ew7] at hO hB7
               have G7 := Lh (G6.out.only hM X6.out hO hof.out)
               have X7 := Lh (X6.out.turn hM G6.out.wk.st hO hB7)
               have L7 := Lh (L6.out.only hM G6.out.wk.st hO X6.out.free hap.out)
               have P7 := Lh (P6.out.only hM G6.out.wk.st hO X6.out.free (by have := hbx.out; omega))
               have Q7 := Lh (Q6.out.only hM G6.out.wk.st hO X6.out.free (by have := hbx.out; omega))
               have q1 := X7.out.blk.cell 1
               have HC3 := Lh (HC2.out w7 (Lh G7.out.wk.st))
               clear hO hB7 tk1 _t hs6 hk6)
            | (go_at_call 59; refine HC3.out.mono ?_; rintro en w8 ⟨rfl, hs8, hk8⟩
               have G8 := Lh (G7.out.call hs8 hk8)
               have X8 := Lh (X7.out.call hk8)
               have L8 := Lh (L7.out.call hk8)
               have P8 := Lh (P7.out.call hk8)
               have Q8 := Lh (Q7.out.call hk8)
               clear q0 q1 q2 ew7
               have q1 := X8.out.blk.cell 1
               have q2 := X8.out.blk.frozen 1
               obtain ⟨w9, ew9⟩ : ∃ w9, w8.setCell ⟨x, 1, none⟩ (.int .i64 z2) = w9 := ⟨_, rfl⟩
               have hO := Only.set_ w8 x 1 (.int .i64 z2)
               have hB9 : Blk (w8.setCell ⟨x, 1, none⟩ (.int .i64 z2)) x 214 #[.int .i64 z1, .int .i64 z2] := (by have := X8.out.blk.set_ 1 (.int .i64 z2); simpa using this)
               rw [ew9] at hO hB9
               have G9 := Lh (G8.out.only hM X8.out hO hof.out)
               have X9 := Lh (X8.out.turn hM G8.out.wk.st hO hB9)
               have L9 := Lh (L8.out.only hM G8.out.wk.st hO X8.out.free hap.out)
               have P9 := Lh (P8.out.only hM G8.out.wk.st hO X8.out.free (by have := hbx.out; omega))
               have Q9 := Lh (Q8.out.only hM G8.out.wk.st hO X8.out.free (by have := hbx.out; omega))
               have r0 := X9.out.blk.cell 0
               have r1 := X9.out.blk.cell 1
               clear hO hB9 hs8 hk8)
            | (at_builtin
               refine wpl_gr hM rfl _ _ 80 _ 16 Tryz.underlying80 Tryz.infoMem rfl (by decide) (by decide) rfl G9.out (by omega) [.int .i64 z1, .int .i64 z2] rfl (by intro u hu; simp only [List.mem_cons, List.not_mem_nil, or_false] at hu; rcases hu with rfl | rfl <;> rfl) rfl rfl ?_
               intro v10 w10 hG10))
          have h2 := HBL.out
          refine ⟨⟨k + 1, s4, ys ++ [(z1, z2)], by omega, by go_num, HT1, Lh (by rw [mcells_append]; exact hG10.out.1), Lh (by rw [List.length_append, hlen.out]; rfl), Lh (Ls.more hM (G9.out.alloc hM _) hG10.out.2 (L9.out.alloc hM G9.out.wk.st _) HA.out), Lh (Bk.more hM (G9.out.alloc hM _) hG10.out.2 (P9.out.alloc hM G9.out.wk.st _) (by omega)), Lh (Bk.more hM (G9.out.alloc hM _) hG10.out.2 (Q9.out.alloc hM G9.out.wk.st _) h2)⟩, by simp [intOf]; omega⟩
        | false =>
          rw [hw] at pw hcw
          have hp : l.getD k (0, 0) = (0, 0) := by rw [hz.out hw]; rfl
          rw [hp] at HT1 HMK
          clear hp hw
          have q0 := X4.out.blk.cell 0
          have q1 := X4.out.blk.cell 1
          have q2 := X4.out.blk.frozen 0
          have HR3 := Lh (show memF M s' ((0 : Int), (0 : Int)) = bnd (M.int s' (0 : Int)) fun s1 y1 => bnd (M.int s1 (0 : Int)) fun s2 y2 => (s2, (y1, y2)) from rfl)
          have HC1 := Lh (hM.c_int s' (0 : Int) w4 (Lh G4.out.wk.st) HMK.out.1 (hM.mono HFK.out (by omega)))
          have HF1 := Lh (hM.f_int (s := s') (a := 10) (x := (0 : Int)) HFK.out HMK.out.1)
          generalize M.int s' (0 : Int) = r at *
          obtain ⟨s3, z1⟩ := r
          simp only at HC1 HF1
          rw [bnd_mk] at HR3
          have HC2 := Lh (fun W hW => hM.c_int s3 (0 : Int) W hW HMK.out.2 HF1.out)
          generalize M.int s3 (0 : Int) = r at *
          obtain ⟨s4, z2⟩ := r
          simp only at HC2
          rw [bnd_mk] at HR3
          rw [HR3.out] at HT1
          simp only at HT1
          have tk1 : True := trivial
          go_wp2_with (first
            | (have _t := tk1; go_at_call 59; refine HC1.out.mono ?_; rintro en w6 ⟨rfl, hs6, hk6⟩
               have G6 := Lh (G4.out.call hs6 hk6)
               have X6 := Lh (X4.out.call hk6)
               have L6 := Lh (L4.out.call hk6)
               have P6 := Lh (P4.out.call hk6)
               have Q6 := Lh (Q4.out.call hk6)
               clear q0 q1 q2 ew4 xm pw hcw y0 y1' y2 y3 hz0 hz1
               have q0 := X6.out.blk.cell 0
               have q2 := X6.out.blk.frozen 0
               obtain ⟨w7, ew7⟩ : ∃ w7, w6.setCell ⟨x, 0, none⟩ (.int .i64 z1) = w7 := ⟨_, rfl⟩
               have hO := Only.set_ w6 x 0 (.int .i64 z1)
               have hB7 : Blk (w6.setCell ⟨x, 0, none⟩ (.int .i64 z1)) x 214 #[.int .i64 z1, .int .i64 (0 : Int)] := (by have := X6.out.blk.set_ 0 (.int .i64 z1); simpa using this)
               rw [ew7] at hO hB7
               have G7 := Lh (G6.out.only hM X6.out hO hof.out)
               have X7 := Lh (X6.out.turn hM G6.out.wk.st hO hB7)
               have L7 := Lh (L6.out.only hM G6.out.wk.st hO X6.out.free hap.out)
               have P7 := Lh (P6.out.only hM G6.out.wk.st hO X6.out.free (by have := hbx.out; omega))
               have Q7 := Lh (Q6.out.only hM G6.out.wk.st hO X6.out.free (by have := hbx.out; omega))
               have q1 := X7.out.blk.cell 1
               have HC3 := Lh (HC2.out w7 (Lh G7.out.wk.st))
               clear hO hB7 tk1 _t hs6 hk6)
            | (go_at_call 59; refine HC3.out.mono ?_; rintro en w8 ⟨rfl, hs8, hk8⟩
               have G8 := Lh (G7.out.call hs8 hk8)
               have X8 := Lh (X7.out.call hk8)
               have L8 := Lh (L7.out.call hk8)
               have P8 := Lh (P7.out.call hk8)
               have Q8 := Lh (Q7.out.call hk8)
               clear q0 q1 q2 ew7
               have q1 := X8.out.blk.cell 1
               have q2 := X8.out.blk.frozen 1
               obtain ⟨w9, ew9⟩ : ∃ w9, w8.setCell ⟨x, 1, none⟩ (.int .i64 z2) = w9 := ⟨_, rfl⟩
               have hO := Only.set_ w8 x 1 (.int .i64 z2)
               have hB9 : Blk (w8.setCell ⟨x, 1, none⟩ (.int .i64 z2)) x 214 #[.int .i64 z1, .int .i64 z2] := (by have := X8.out.blk.set_ 1 (.int .i64 z2); simpa using this)
               rw [ew9] at hO hB9
               have G9 := Lh (G8.out.only hM X8.out hO hof.out)
               have X9 := Lh (X8.out.turn hM G8.out.wk.st hO hB9)
               have L9 := Lh (L8.out.only hM G8.out.wk.st hO X8.out.free hap.out)
               have P9 := Lh (P8.out.only hM G8.out.wk.st hO X8.out.free (by have := hbx.out; omega))
               have Q9 := Lh (Q8.out.only hM G8.out.wk.st hO X8.out.free (by have := hbx.out; omega))
               have r0 := X9.out.blk.cell 0
               have r1 := X9.out.blk.cell 1
               clear hO hB9 hs8 hk8)
            | (at_builtin
               refine wpl_gr hM rfl _ _ 80 _ 16 Tryz.underlying80 Tryz.infoMem rfl (by decide) (by decide) rfl G9.out (by omega) [.int .i64 z1, .int .i64 z2] rfl (by intro u hu; simp only [List.mem_cons, List.not_mem_nil, or_false] at hu; rcases hu with rfl | rfl <;> rfl) rfl rfl ?_
               intro v10 w10 hG10))
          have h2 := HBL.out
          refine ⟨⟨k + 1, s4, ys ++ [(z1, z2)], by omega, by go_num, HT1, Lh (by rw [mcells_append]; exact hG10.out.1), Lh (by rw [List.length_append, hlen.out]; rfl), Lh (Ls.more hM (G9.out.alloc hM _) hG10.out.2 (L9.out.alloc hM G9.out.wk.st _) HA.out), Lh (Bk.more hM (G9.out.alloc hM _) hG10.out.2 (P9.out.alloc hM G9.out.wk.st _) (by omega)), Lh (Bk.more hM (G9.out.alloc hM _) hG10.out.2 (Q9.out.alloc hM G9.out.wk.st _) h2)⟩, by simp [intOf]; omega⟩
    · obtain rfl : k = m := by omega
      have HE := Lh (HR2.out.trans hT.out)
      obtain ⟨A1, c1, rfl, hl1⟩ := hG.out.list2
      have hL1 := Lh hl1
      have p1 := hX.out.blk.cell 1
      have p2 := hX.out.blk.frozen 1
      obtain ⟨w3, ew3⟩ : ∃ w3, wr.setCell ⟨b, 1, none⟩ (.slice A1 k c1) = w3 := ⟨_, rfl⟩
      have hO := Only.set_ wr b 1 (.slice A1 k c1)
      have hB3 : Blk (wr.setCell ⟨b, 1, none⟩ (.slice A1 k c1)) b 82 #[.int .u64 (y1 : Int), .slice A1 k c1] := by have := hX.out.blk.set_ 1 (.slice A1 k c1); simpa using this
      rw [ew3] at hO hB3
      have h2 := HBL.out
      have L3 := Lh (hL1.out.only hM hG.out.wk.st hO hX.out.free (by omega))
      have Q3 := Lh (hB.out.only hM hG.out.wk.st hO hX.out.free (by omega))
      have P3 := Lh (hX.out.turn hM hG.out.wk.st hO hB3)
      have W3 := Lh (hG.out.wk.only hM hX.out hO)
      clear hO hB3 h2 hl1
      go_wp2_with (first | (refine wpl_load_blk rfl 82 (.tmp 3) rfl b 82 _ _ rfl P3.out.blk Tryz.underlying82 rfl Tryz.sizeMa ?_) | (refine wpl_store_blk rfl 82 (.tmp 4) (.tmp 57) rfl (b + 1) 82 _ #[.int .u64 (y1 : Int), .slice A1 k c1] rfl rfl Q3.out.blk rfl Tryz.sizeMa rfl ?_; intro wf hB5 hO5))
      have h2 := HBL.out
      have L5 := Lh (L3.out.only hM W3.out.st hO5.out Q3.out.free h2)
      have W5 := Lh (W3.out.only hM Q3.out hO5.out)
      refine bodyPost_ret (v := .agg #[.int .u64 (y1 : Int), .slice A1 k c1]) (res_c Tryz.results114 rfl (load_blk hB5.out Tryz.underlying82 rfl Tryz.sizeMa)) rfl ?_
      rw [HR.out, HE.out, bnd_mk]
      refine ⟨A1, c1, ?_, ?_, W5.out.st, W5.out.stp⟩
      · simp only; rw [hlen.out]
      · simp only; rw [hlen.out]; exact L5.out.mono (by have := HBW.out; omega)
end Go.Proofs.YtijdbdenmcjmmaaGreatDoor
end
