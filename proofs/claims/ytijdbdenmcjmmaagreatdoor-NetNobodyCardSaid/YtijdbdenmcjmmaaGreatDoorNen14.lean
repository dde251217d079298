/-
  THE REFERENCE'S P, READING OR WRITING: rows of numbers; THE REFERENCE'S P: the reading one, the writing one. (joined out of PaQ4, PaQ8 by shake.py)
-/
import Derived.Test.YtijdbdenmcjmmaaGreatDoorNen13
import Derived.Test.YtijdbdenmcjmmaaGreatDoorNen07
import Derived.Test.YtijdbdenmcjmmaaGreatDoorNen06
section
namespace Go.Proofs.YtijdbdenmcjmmaaGreatDoor
open Go.RowKit OctMath
set_option linter.unusedVariables false
variable {σ : Type}
structure Gr (M : Md σ) (w0 w1 : World) (t : TypeId) (size : Nat) (v : Value) (k : Nat) (xs : List Value) (s : σ) (wr : World) : Prop where
  wk : Wk M w0 s wr
  own : wr.ownsRow w1.heap.size t size v k xs
  free : ∀ b, v.ownBlock = some b → Free M b wr
  lo : w0.heap.size ≤ w1.heap.size
  hi : w1.heap.size ≤ wr.heap.size
theorem Gr.start {M : Md σ} {w0 w1 : World} {s : σ} (t : TypeId) (size : Nat) (h : Wk M w0 s w1) : Gr M w0 w1 t size (.slice none 0 0) 0 [] s w1 := ⟨h, ⟨by simp, .inl ⟨rfl, rfl⟩⟩, fun b e => by simp [Value.ownBlock] at e, h.stp.size, Nat.le_refl _⟩
theorem Stp.own {M : Md σ} {w w' : World} {base size n : Nat} {t : TypeId} {v : Value} {xs : List Value} (h : Stp M w w') (ho : w.ownsRow base t size v n xs) (hH : ∀ k, v.ownBlock = some k → Free M k w) : w'.ownsRow base t size v n xs := by
  obtain ⟨hl, h0⟩ := ho
  refine ⟨hl, ?_⟩
  rcases h0 with h0 | ⟨g, cap, cur, rfl, h1, h2, h3⟩
  · exact .inl h0
  · have hf := hH g rfl
    exact .inr ⟨g, cap, cur, rfl, h1, (h.block g hf.lt hf.wr).trans h2, h3⟩
theorem Gr.call {M : Md σ} {w0 w1 wr w' : World} {t : TypeId} {size : Nat} {v : Value} {k : Nat} {xs : List Value} {s s' : σ} (h : Gr M w0 w1 t size v k xs s wr) (h1 : M.St s' w') (h2 : Stp M wr w') : Gr M w0 w1 t size v k xs s' w' :=
  ⟨h.wk.call h1 h2, h2.own h.own h.free, fun b e => (h.free b e).step h2, h.lo, Nat.le_trans h.hi h2.size⟩
theorem Gr.later {M : Md σ} (hM : MdOk M) {w0 w1 wr w' : World} {t : TypeId} {size : Nat} {v : Value} {k : Nat} {xs : List Value} {s : σ} (h : Gr M w0 w1 t size v k xs s wr) (hb : Below wr.heap.size wr w') : Gr M w0 w1 t size v k xs s w' :=
  ⟨h.wk.later hM hb, h.own.kept (below_grown hb) (by cases hv : v.ownBlock <;> simp), fun b e => (h.free b e).grown hM h.wk.st (below_grown hb) (fun k e => by cases e), h.lo, Nat.le_trans h.hi hb.size⟩
theorem Gr.alloc {M : Md σ} (hM : MdOk M) {w0 w1 wr : World} {t : TypeId} {size : Nat} {v : Value} {k : Nat} {xs : List Value} {s : σ} (h : Gr M w0 w1 t size v k xs s wr) (o : Obj) : Gr M w0 w1 t size v k xs s (wr.alloc o) := h.later hM ((Below.refl _ _).alloc (Nat.le_refl _) o)
theorem Gr.base {M : Md σ} {w0 w1 wr : World} {t : TypeId} {size : Nat} {v : Value} {k : Nat} {xs : List Value} {s : σ} (h : Gr M w0 w1 t size v k xs s wr) {b : Nat} (e : v.ownBlock = some b) : w1.heap.size ≤ b := (h.own.lt b e).1
theorem Gr.only {M : Md σ} (hM : MdOk M) {w0 w1 wr w' : World} {t t' : TypeId} {size : Nat} {v : Value} {k b : Nat} {xs : List Value} {cs : Array Value} {s : σ} (h : Gr M w0 w1 t size v k xs s wr) (hb : Bk M w0 b t' cs wr) (ho : Only b wr w') (hne : v.ownBlock ≠ some b) : Gr M w0 w1 t size v k xs s w' :=
  ⟨h.wk.only hM hb ho, ho.own h.own hne, fun j e => (h.free j e).grown hM h.wk.st ho.grown (fun i e' => by injection e' with e'; rw [← e']; exact hb.free), h.lo, by rw [ho.size]; exact h.hi⟩
theorem Gr.more {M : Md σ} (hM : MdOk M) {w0 w1 wr w' : World} {t : TypeId} {size : Nat} {v v' : Value} {k k' : Nat} {xs xs' : List Value} {s : σ} (h : Gr M w0 w1 t size v k xs s wr) (hl : w1.heap.size ≤ wr.heap.size) (ho : w'.ownsRow w1.heap.size t size v' k' xs') (hg : wr.grownBy w' v.ownBlock) (hv : v'.ownBlock = v.ownBlock ∨ v'.ownBlock = some wr.heap.size) : Gr M w0 w1 t size v' k' xs' s w' := by
  have hr : ∀ b, v.ownBlock = some b → Free M b wr ∧ w0.heap.size ≤ b := fun b e => ⟨h.free b e, Nat.le_trans h.lo (h.base e)⟩
  obtain ⟨a, dq⟩ := hM.grown h.wk.st hg (fun b e => (hr b e).1)
  refine ⟨h.wk.grown hM hg hr, ho, fun b e => ?_, h.lo, Nat.le_trans h.hi hg.size⟩
  rcases hv with hv | hv
  · exact (h.free b (hv ▸ e)).grown hM h.wk.st hg (fun b e => (hr b e).1)
  · rw [hv] at e
    injection e with e
    subst e
    exact ⟨(ho.lt _ hv).2, fun e => Nat.lt_irrefl _ (hM.fresh h.wk.st _ (.inl ((dq.1 _).1 e))), fun e => Nat.lt_irrefl _ (hM.fresh h.wk.st _ (.inr ((dq.2 _).1 e)))⟩
theorem Ls.more {M : Md σ} (hM : MdOk M) {w0 w1 wr w' : World} {t : TypeId} {size sz n : Nat} {v : Value} {k : Nat} {xs ys : List Value} {s : σ} {A : Option Addr} (h : Gr M w0 w1 t size v k xs s wr) (hg : wr.grownBy w' v.ownBlock) (hL : Ls M sz A n ys wr) (ha : 0 < n → ∀ ad, A = some ad → ad.block < w1.heap.size) : Ls M sz A n ys w' :=
  hL.grown hM h.wk.st hg h.free (fun hn ad e e' => by have := ha hn ad e; have := h.base e'; omega)
theorem Bk.more {M : Md σ} (hM : MdOk M) {w0 w1 wr w' : World} {t t' : TypeId} {size b : Nat} {v : Value} {k : Nat} {xs : List Value} {cs : Array Value} {s : σ} (h : Gr M w0 w1 t size v k xs s wr) (hg : wr.grownBy w' v.ownBlock) (hB : Bk M w0 b t' cs wr) (ha : b < w1.heap.size) : Bk M w0 b t' cs w' :=
  hB.grown hM h.wk.st hg h.free (fun e => by have := h.base e; omega)
theorem wpl_gr {M : Md σ} (hM : MdOk M) {ops : Array Oper} {rest : List Oper} {o : Oper} {a : Act} {Q : Exit → Act → World → Prop} {w0 w1 wr : World} {te : TypeId} {size : Nat} {v : Value} {k : Nat} {xs : List Value} {st : σ} (hg : o.guard = none) (s x : Operand) (ts : TypeId) (z : Value) (bytes : Nat)
    (hts : Tryz.prog.underlying ts = some (.slice te)) (hinfo : (Tryz.prog.info? te).map (fun i => (i.zero, i.size, i.bytes)) = some (some z, size, bytes)) (hz : z.cells.size = size) (h0 : 0 < size) (hb0 : 0 < bytes)
    (ho : o.op = .call { callee := .builtin .append, args := #[s, x], argTypes := #[ts, ts] }) (hst : Gr M w0 w1 te size v k xs st wr) (hl : (k + 1) * bytes ≤ 140737488355328) (us : List Value) (hus : us.length = 1 * size) (hu : ∀ u ∈ us, u.oneCell' = true) (hs : a.eval s = v) (hx : a.eval x = .slice (some ⟨wr.heap.size, 0, none⟩) 1 1)
    (h : ∀ v' w', Hid (Gr M w0 w1 te size v' (k + 1) (xs ++ us) st w' ∧ (wr.alloc (.cells us.toArray te)).grownBy w' v.ownBlock) → wpList Tryz.prog ops Q rest (a.put o.dst v') w') : wpList Tryz.prog ops Q (o :: rest) a (wr.alloc (.cells us.toArray te)) := by
  obtain ⟨ii, q1, q2, q3, q4⟩ := info_parts hinfo
  have hst' := hst.alloc hM (.cells us.toArray te)
  have e : (wr.alloc (.cells us.toArray te)).heap.size = wr.heap.size + 1 := by simp
  have hk : (k + 1) ≤ maxLen := by
    unfold maxLen
    have : (k + 1) * 1 ≤ (k + 1) * bytes := Nat.mul_le_mul_left _ hb0
    omega
  exact wpList_append_any _ hg s x ts ho w1.heap.size te ii z size bytes hts q1 q2 q3 q4 hz h0 v k xs hs hst'.own (wr.heap.size + 1) (some ⟨wr.heap.size, 0, none⟩) 1 1 us hx (Reads.lit wr te us size 1 hus) hu hk hl (by have := hst.hi; omega) (fun v' w' h1 h2 h3 => h v' w' (Lh ⟨hst'.more hM hst'.hi h1 h2 h3, h2⟩))
theorem itF_bad {α β : Type} {M : Md σ} {one : σ → α → σ × β} {arg : Nat → α} {s : σ} {k m : Nat} (h : M.bad (itF M one arg k s).1 = true) (hm : k ≤ m) : itF M one arg m s = itF M one arg k s := by
  induction m with
  | zero => obtain rfl : k = 0 := by omega
            rfl
  | succ m ih =>
    by_cases e : k = m + 1
    · rw [e]
    · have := ih (by omega)
      show (if M.bad (itF M one arg m s).1 then _ else _) = _
      rw [this, if_pos h]
theorem itF_more {α β : Type} {M : Md σ} {one : σ → α → σ × β} {arg : Nat → α} {s s' : σ} {k : Nat} {ys : List β} (h : itF M one arg k s = (s', ys)) (hb : M.bad s' = false) : itF M one arg (k + 1) s = ((one s' (arg k)).1, ys ++ [(one s' (arg k)).2]) := by
  show (if M.bad (itF M one arg k s).1 then _ else _) = _
  rw [h, if_neg (by simp [hb])]
theorem itF_fit {α β : Type} {M : Md σ} (hM : MdOk M) {one : σ → α → σ × β} {arg : Nat → α} {s : σ} {c : Nat} (h1 : ∀ s i a, M.fit s (a + c) → M.fit (one s (arg i)).1 a) : ∀ (k a : Nat), M.fit s (a + c * k) → M.fit (itF M one arg k s).1 a
  | 0, a, h => h
  | k + 1, a, h => by
    have h2 := itF_fit hM h1 k (a + c) (by rw [Nat.mul_succ] at h; exact hM.mono h (by omega))
    show M.fit (if M.bad (itF M one arg k s).1 then _ else _ : σ × List β).1 a
    split
    · exact hM.mono h2 (by omega)
    · exact h1 _ _ _ h2
structure Lx (M : Md σ) (lo size : Nat) (A : Option Addr) (c n : Nat) (xs : List Value) (w : World) : Prop where
  ls : Ls M size A n xs w
  lo : 0 < n → ∀ ad, A = some ad → lo ≤ ad.block
  kc : n ≤ c
  cm : c ≤ maxLen
theorem Lx.call {M : Md σ} {lo size c n : Nat} {A : Option Addr} {xs : List Value} {w w' : World} (h : Lx M lo size A c n xs w) (s : Stp M w w') : Lx M lo size A c n xs w' := ⟨h.ls.call s, h.lo, h.kc, h.cm⟩
theorem Lx.alloc {M : Md σ} (hM : MdOk M) {s : σ} {lo size c n : Nat} {A : Option Addr} {xs : List Value} {w : World} (h : Lx M lo size A c n xs w) (hs : M.St s w) (o : Obj) : Lx M lo size A c n xs (w.alloc o) := ⟨h.ls.alloc hM hs o, h.lo, h.kc, h.cm⟩
theorem Lx.only {M : Md σ} (hM : MdOk M) {s : σ} {lo size c n b : Nat} {A : Option Addr} {xs : List Value} {w w' : World} (h : Lx M lo size A c n xs w) (hs : M.St s w) (ho : Only b w w') (hf : Free M b w) (hb : b < lo) : Lx M lo size A c n xs w' :=
  ⟨h.ls.only hM hs ho hf (fun hn ad e => by have := h.lo hn ad e; omega), h.lo, h.kc, h.cm⟩
theorem Lx.mono {M : Md σ} {lo lo' size c n : Nat} {A : Option Addr} {xs : List Value} {w : World} (h : Lx M lo size A c n xs w) (hl : lo' ≤ lo) : Lx M lo' size A c n xs w := ⟨h.ls, fun hn ad e => Nat.le_trans hl (h.lo hn ad e), h.kc, h.cm⟩
def RetLs (M : Md σ) (size : Nat) (s' : σ) (cells : List Value) (n : Nat) (w : World) (e : Ending) (w' : World) : Prop :=
  ∃ A c, e = .returned (.slice A n c) ∧ Lx M w.heap.size size A c n cells w' ∧ M.St s' w' ∧ Stp M w w'
theorem Gr.list {M : Md σ} {w0 w1 wr : World} {t : TypeId} {size : Nat} {v : Value} {k : Nat} {xs : List Value} {s : σ} (h : Gr M w0 w1 t size v k xs s wr) : RetLs M size s xs k w0 (.returned v) wr := by
  obtain ⟨A1, c1, rfl, h1, h2⟩ := own_slice h.own
  refine ⟨A1, c1, rfl, ⟨⟨Reads.of_own h.own, fun hk ad e => ?_⟩, fun hk ad e => ?_, h1, h2⟩, h.wk.st, h.wk.stp⟩
  · rcases h.own.2 with ⟨e', h0⟩ | ⟨b, c, cur, e', hb, -⟩
    · omega
    · injection e' with e' _ _
      rw [e] at e'
      obtain rfl := Option.some.inj e'
      exact h.free b (by rw [e]; rfl)
  · rcases h.own.2 with ⟨e', h0⟩ | ⟨b, c, cur, e', hb, -⟩
    · omega
    · injection e' with e' _ _
      rw [e] at e'
      obtain rfl := Option.some.inj e'
      exact Nat.le_trans h.lo hb
theorem f_ints {M : Md σ} (hM : MdOk M) {s : σ} {a : Nat} {l : List Int} (hl : l.length ≤ 1048576) (hI : ∀ i, I64 (l.getD i 0)) (h : M.fit s (a + 10485770)) : M.fit (intsF M s l).1 a := by
  have h1 := hM.f_len (s := s) (a := a + 10485760) (x := l.length) h (by omega)
  have h2 := hM.r_len (s := s) (x := l.length) hl
  exact itF_fit hM (one := M.int) (arg := fun i => l.getD i 0) (c := 10) (fun s i a h => hM.f_int h (hI i)) _ a (hM.mono h1 (by omega))
theorem getD_I64 {l : List Int} (h : ∀ x ∈ l, I64 x) (i : Nat) : I64 (l.getD i 0) := by
  rw [List.getD_eq_getElem?_getD]
  cases e : l[i]? with
  | none => exact ⟨by decide, by decide⟩
  | some x => exact h x (List.mem_of_getElem? e)
set_option maxRecDepth 100000 in
set_option maxHeartbeats 2000000 in
theorem pf_ints (M : Md σ) (hM : MdOk M) (s : σ) (A : Option Addr) (n cap : Nat) (l : List Int) (w : World) (hS : Hid (M.St s w)) (hL : Hid (Ls M 1 A n (l.map iv) w)) (hn : Hid (l.length = n)) (hn2 : n ≤ 1048576) (hI : Hid (∀ x ∈ l, I64 x)) (hz : Hid (M.write = false → l = [])) (hf : Hid (M.fit s 10485790)) :
    Calls Tryz.prog 93 #[.pointer (some ⟨M.g, 0, none⟩), .slice A n cap] w (RetLs M 1 (intsF M s l).1 ((intsF M s l).2.map iv) (intsF M s l).2.length w) := by
  have HR := Lh (show intsF M s l = itF M M.int (fun i => l.getD i 0) (M.len s l.length).2 (M.len s l.length).1 from rfl)
  have HC := Lh (hM.c_len s n w hS (by omega) (hM.mono hf.out (by omega)))
  have hm := hM.r_len (s := s) (x := n) hn2
  have HW := Lh (fun h => hM.wlen h s n)
  have HF := Lh (hM.f_len (s := s) (a := 10485780) (x := n) hf.out (by omega))
  rw [hn.out] at HR
  generalize intsF M s l = R at *
  generalize M.len s n = r at *
  obtain ⟨s1, m⟩ := r
  simp only at HC HR hm HW HF
  go_enter Tryz.func93, Tryz.ntmps93
  go_wp2_with fail
  refine HC.out.mono ?_
  rintro e w1 ⟨rfl, hs1, hk1⟩
  have HG0 := Lh (Gr.start 3 1 ((Wk.start hS.out).call hs1 hk1))
  have HL1 := Lh (hL.out.call hk1)
  have HA := Lh (show 0 < n → ∀ ad, A = some ad → ad.block < w1.heap.size from fun h ad e => (HL1.out.free h ad e).lt)
  clear hs1 hk1 HC
  go_wp2
  go_loopw [6, 7, 8] (fun vo vi _ wr => ∃ (k : Nat) (s' : σ) (ys : List Int), k ≤ m ∧ vi = .int .i64 k ∧ Hid (itF M M.int (fun i => l.getD i 0) k s1 = (s', ys)) ∧ Hid (Gr M w w1 3 1 vo k (ys.map iv) s' wr) ∧ Hid (Ls M 1 A n (l.map iv) wr)) (fun _ vi _ _ => m - (intOf vi).toNat)
  case atStart => exact ⟨0, s1, [], by omega, rfl, Lh rfl, HG0, HL1⟩
  case round =>
    obtain ⟨k, s', ys, hk, rfl, hT, hG, hLr⟩ := hrel
    clear HG0 HL1
    have hcw := hM.cwrite hG.out.wk.st
    have hcb := hM.cbad hG.out.wk.st
    have hl := Lh (show ys.length = k from by have := hG.out.own.1; simpa using this)
    by_cases hlt : k < m
    · have d1 : decide (k < m) = true := decide_eq_true hlt
      cases hbad : M.bad s' with
      | true =>
        rw [hbad] at hcb
        clear hbad
        go_wp2
        go_ret
        have hb : M.bad (itF M M.int (fun i => l.getD i 0) k s1).1 = true := by rw [hT.out]; exact hM.cbad hG.out.wk.st |>.symm.trans hcb |> fun e => by simpa using e
        rw [HR.out, itF_bad hb hk, hT.out]
        simp only
        rw [hl.out]
        exact hG.out.list
      | false =>
        rw [hbad] at hcb
        have HT1 := Lh (itF_more hT.out hbad)
        have hfk := itF_fit hM (one := M.int) (arg := fun i => l.getD i 0) (c := 10) (fun s i a h => hM.f_int h (getD_I64 hI.out i)) k 10 (hM.mono HF.out (by omega))
        rw [hT.out] at hfk
        have HCI := Lh (hM.c_int s' (l.getD k 0) wr (Lh hG.out.wk.st) (getD_I64 hI.out k) hfk)
        clear hbad hfk
        cases hw : M.write with
        | true =>
          rw [hw] at hcw
          obtain rfl := HW.out hw
          obtain ⟨ad, hA, hbl, hc⟩ := hLr.out.rd.2 (by omega : 0 < m)
          subst hA
          have hck := hc k (iv (l.getD k 0)) (by rw [List.getElem?_map, List.getD_eq_getElem?_getD, List.getElem?_eq_getElem (by have := hn.out; omega)]; rfl)
          obtain ⟨y, hy⟩ : ∃ y, l.getD k 0 = y := ⟨_, rfl⟩
          rw [hy] at hck HCI
          rw [hy] at HT1
          unfold iv at hck
          generalize M.int s' y = q at *
          obtain ⟨s2, z⟩ := q
          simp only at HCI HT1
          clear hw hy hc hbl
          go_wp2_with (first
            | (go_at_call 59; refine HCI.out.mono ?_; rintro e w3 ⟨rfl, hs3, hk3⟩; have hG3 := Lh (hG.out.call hs3 hk3); have hL3 := Lh (hLr.out.call hk3); clear hs3 hk3)
            | (at_builtin
               refine wpl_gr hM rfl _ _ 25 _ 8 Tryz.underlying25 Tryz.infoI64 rfl (by decide) (by decide) rfl hG3.out (by omega) [.int .i64 z] rfl (by intro u hu; rw [List.mem_singleton.1 hu]; rfl) rfl rfl ?_
               intro v4 w4 hG4))
          refine ⟨⟨k + 1, s2, ys ++ [z], by omega, by go_num, HT1, Lh (by rw [List.map_append]; exact hG4.out.1), Lh (Ls.more hM (hG3.out.alloc hM _) hG4.out.2 (hL3.out.alloc hM hG3.out.wk.st _) HA.out)⟩, by simp [intOf]; omega⟩
        | false =>
          rw [hw] at hcw
          have hy : l.getD k 0 = 0 := by rw [hz.out hw]; rfl
          rw [hy] at HCI
          rw [hy] at HT1
          generalize M.int s' 0 = q at *
          obtain ⟨s2, z⟩ := q
          simp only at HCI HT1
          clear hw hy
          go_wp2_with (first
            | (go_at_call 59; refine HCI.out.mono ?_; rintro e w3 ⟨rfl, hs3, hk3⟩; have hG3 := Lh (hG.out.call hs3 hk3); have hL3 := Lh (hLr.out.call hk3); clear hs3 hk3)
            | (at_builtin
               refine wpl_gr hM rfl _ _ 25 _ 8 Tryz.underlying25 Tryz.infoI64 rfl (by decide) (by decide) rfl hG3.out (by omega) [.int .i64 z] rfl (by intro u hu; rw [List.mem_singleton.1 hu]; rfl) rfl rfl ?_
               intro v4 w4 hG4))
          refine ⟨⟨k + 1, s2, ys ++ [z], by omega, by go_num, HT1, Lh (by rw [List.map_append]; exact hG4.out.1), Lh (Ls.more hM (hG3.out.alloc hM _) hG4.out.2 (hL3.out.alloc hM hG3.out.wk.st _) HA.out)⟩, by simp [intOf]; omega⟩
    · obtain rfl : k = m := by omega
      go_wp2
      go_ret
      rw [HR.out, hT.out]
      simp only
      rw [hl.out]
      exact hG.out.list
end Go.Proofs.YtijdbdenmcjmmaaGreatDoor
end
section
namespace Go.Proofs.YtijdbdenmcjmmaaGreatDoor
open Go.RowKit OctMath
set_option linter.unusedVariables false
def wMd (g : Nat) : Md (List Nat) where
  g := g
  write := true
  bad _ := false
  fit s a := s.length + a ≤ 70000000000000
  St s w := Pen (fun _ => False) g s w
  dep w k := k = g ∨ ∃ v, w.cell? ⟨g, 0, none⟩ = some v ∧ v.ownBlock = some k
  wr w k := k = g ∨ ∃ v, w.cell? ⟨g, 0, none⟩ = some v ∧ v.ownBlock = some k
  u64 s x := (s ++ putN x, x)
  u32 s x := (s ++ putN x, x)
  int s x := (s ++ putN (zz x), x)
  flag s x := (s ++ [x.toNat], x)
  text s x := (s ++ (putN x.length ++ x), x)
  len s x := (s ++ putN x, x)
def offW (g : Nat) (w : World) : Nat → Prop := fun k => k < w.heap.size ∧ ¬ (wMd g).wr w k
theorem wMd_pen {g : Nat} {xs : List Nat} {w : World} (h : Pen (fun _ => False) g xs w) : Hid (Pen (offW g w) g xs w) ∧ Hid (Safe (offW g w) g w) := by
  obtain ⟨v, hB, hO, hg, -⟩ := h.out
  exact ⟨Lh ⟨v, hB, hO, hg, fun k hk e => hk.2 (.inr ⟨v, hB.cell 0, e⟩)⟩, Lh fun k hk => ⟨hk.1, fun e => hk.2 (.inl e)⟩⟩
theorem wMd_ret {g : Nat} {xs ys : List Nat} {v : Value} {w w' : World} {e : Ending} (h0 : Pen (fun _ => False) g xs w) (h : RetPen (offW g w) g ys v w e w') : RetP (wMd g) ys v w e w' := by
  obtain ⟨h1, h2, h3⟩ := h
  obtain ⟨pv, hB, hO, hg, hh⟩ := h2.out
  have hw : ∀ k, k < w.heap.size → (wMd g).wr w' k → (wMd g).wr w k := fun k hk e => by
    by_cases hn : (wMd g).wr w k
    · exact hn
    · rcases e with e | ⟨u, hu, e⟩
      · exact .inl e
      · have hc : w'.cell? ⟨g, 0, none⟩ = some pv := hB.cell 0
        rw [hu] at hc
        injection hc with hc
        subst hc
        exact absurd e (hh k ⟨hk, hn⟩)
  exact ⟨h1, ⟨pv, hB, hO, hg, fun _ h => h.elim⟩, h3.os, h3.tape, h3.output, h3.size, fun k hk hn => h3.block k ⟨hk, hn⟩ hk, hw, hw⟩
theorem octs_strOf (x : List Nat) (h : ∀ y ∈ x, y < 256) : octs (strOf x) = x := by
  unfold octs strOf
  simp only [List.map_map]
  conv => rhs; rw [← List.map_id x]
  refine List.map_congr_left fun y hy => ?_
  have := h y hy
  simp [Nat.mod_eq_of_lt this]
theorem strOf_size (x : List Nat) : (strOf x).size = x.length := by
  unfold strOf
  simp [ByteArray.size]
theorem wMd_ok (g : Nat) : MdOk (wMd g) where
  gwr := fun _ => .inl rfl
  glt := fun h => h.lt
  cwrite := fun h => by obtain ⟨v, hB, _⟩ := h.out; exact hB.cell 2
  cbad := fun h => by obtain ⟨v, hB, _⟩ := h.out; exact hB.cell 3
  grown := fun {s w w' row} h hg hr => by
    obtain ⟨v, hB, hO, hne, -⟩ := h.out
    have h0 : w.cell? ⟨g, 0, none⟩ = some v := hB.cell 0
    have hgr : some g ≠ row := fun e => (hr g e.symm).wr (.inl rfl)
    have hB' := hB.grown hg hgr
    have h0' : w'.cell? ⟨g, 0, none⟩ = some v := hB'.cell 0
    refine ⟨⟨v, hB', hO.kept hg ?_, hne, fun _ h => h.elim⟩, ?_, ?_⟩
    · cases row with
      | none => cases hv : v.ownBlock <;> simp
      | some k => exact .inr (fun e => (hr k rfl).wr (.inr ⟨v, h0, e⟩))
    · intro k; show (_ ∨ _) ↔ (_ ∨ _); rw [h0, h0']
    · intro k; show (_ ∨ _) ↔ (_ ∨ _); rw [h0, h0']
  fresh := fun h k hk => by
    obtain ⟨v, hB, hO, hne, -⟩ := h.out
    have h0 : _ = some v := hB.cell 0
    rcases hk with (rfl | ⟨u, hu, e⟩) | (rfl | ⟨u, hu, e⟩)
    · exact hB.lt
    · rw [h0] at hu; injection hu with hu; exact (hO.lt k (hu ▸ e)).2
    · exact hB.lt
    · rw [h0] at hu; injection hu with hu; exact (hO.lt k (hu ▸ e)).2
  mono := fun {s a b} h hb => Nat.le_trans (Nat.add_le_add_left hb _) h
  f_u64 := fun {s a x} h hx => by have := putN_len10 hx; show (s ++ putN x).length + a ≤ _; rw [List.length_append]; unfold wMd at h; simp only at h; omega
  f_u32 := fun {s a x} h hx => by have := putN_len10 (n := x) (by omega); show (s ++ putN x).length + a ≤ _; rw [List.length_append]; unfold wMd at h; simp only at h; omega
  f_int := fun {s a x} h hx => by have := putN_len10 (zz_lt hx.1 hx.2); show (s ++ putN (zz x)).length + a ≤ _; rw [List.length_append]; unfold wMd at h; simp only at h; omega
  f_flag := fun {s a x} h => by show (s ++ [x.toNat]).length + a ≤ _; rw [List.length_append]; unfold wMd at h; simp only at h; simp only [List.length_singleton]; omega
  f_text := fun {s a x} h hx => by have := putN_len10 (n := x.length) (by omega); show (s ++ (putN x.length ++ x)).length + a ≤ _; rw [List.length_append, List.length_append]; unfold wMd at h; simp only at h; omega
  f_len := fun {s a x} h hx => by have := putN_len10 (n := x) (by omega); show (s ++ putN x).length + a ≤ _; rw [List.length_append]; unfold wMd at h; simp only at h; omega
  r_u64 := fun h => h
  r_u32 := fun h => h
  r_int := fun h => h
  r_text := fun h => h
  r_len := fun h => h
  wlen := fun _ _ _ => rfl
  c_u64 := fun s x w h hx hf => by obtain ⟨a, b⟩ := wMd_pen h.out; unfold wMd at hf; simp only at hf; exact (pen_u64 _ g s x w a b hx (by omega)).mono fun _ _ r => wMd_ret h.out r
  c_u32 := fun s x w h hx hf => by obtain ⟨a, b⟩ := wMd_pen h.out; unfold wMd at hf; simp only at hf; exact (pen_u32 _ g s x w a b hx (by omega)).mono fun _ _ r => wMd_ret h.out r
  c_int := fun s x w h hx hf => by obtain ⟨a, b⟩ := wMd_pen h.out; unfold wMd at hf; simp only at hf; exact (pen_int _ g s x w a b hx.1 hx.2 (by omega)).mono fun _ _ r => wMd_ret h.out r
  c_flag := fun s x w h hf => by obtain ⟨a, b⟩ := wMd_pen h.out; unfold wMd at hf; simp only at hf; exact (pen_flag _ g s x w a b (by omega)).mono fun _ _ r => wMd_ret h.out r
  c_text := fun s x w h hx hf => by
    obtain ⟨a, b⟩ := wMd_pen h.out
    unfold wMd at hf
    simp only at hf
    have hs := strOf_size x
    have := pen_text _ g s (strOf x) w a b (by omega) (by omega)
    rw [octs_strOf x hx.1, hs] at this
    exact this.mono fun _ _ r => wMd_ret h.out r
  c_len := fun s x w h hx hf => by obtain ⟨a, b⟩ := wMd_pen h.out; unfold wMd at hf; simp only at hf; exact (pen_len _ g s x w a b hx (by omega)).mono fun _ _ r => wMd_ret h.out r
end Go.Proofs.YtijdbdenmcjmmaaGreatDoor
end
