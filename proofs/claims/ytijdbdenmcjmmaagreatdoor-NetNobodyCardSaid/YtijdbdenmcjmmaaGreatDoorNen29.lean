/-
  A NET THAT WAS MADE: its state in memory; Send. (printed by gen_nt2.py); A NET THAT WAS MADE: Len, New, Peek. (printed by gen_nt3.py). (joined out of NtB, NtC by shake.py)
-/
import Derived.Test.YtijdbdenmcjmmaaGreatDoorNen26
import Derived.Test.YtijdbdenmcjmmaaGreatDoorNen04
import Derived.Test.YtijdbdenmcjmmaaGreatDoorNen28
section
namespace Go.Proofs.YtijdbdenmcjmmaaGreatDoor
open Go.RowKit OctMath
set_option linter.unusedVariables false
set_option linter.unusedSimpArgs false
def nCs (fA : Option Addr) (fn fc : Nat) (sA : Option Addr) (sn sc : Nat) (t1 t2 t3 : Int) : Array Value := #[.bool true, .slice fA fn fc, .slice sA sn sc, .int .i64 t1, .int .i64 t2, .int .i64 t3]
structure NS (b0 : Nat) (w : World) (g : Nat) (fA : Option Addr) (fn fc : Nat) (sA : Option Addr) (sc : Nat) (F : List Value) (S : List (Int × Int)) (t1 t2 t3 : Int) : Prop where
  blk : Blk w g 45 (nCs fA fn fc sA fn sc t1 t2 t3)
  fl : w.ownsRow b0 33 1 (.slice fA fn fc) fn F
  sd : w.ownsRow b0 62 2 (.slice sA fn sc) fn (mcells S)
  ge : b0 ≤ g
structure El (w : World) (g : Nat) (v1 v2 : Value) (A : Option Addr) (n c : Nat) (bs : List Nat) : Prop where
  in_ : InB w A n c bs
  off : ∀ ad, A = some ad → 0 < n → ad.block ≠ g ∧ v1.ownBlock ≠ some ad.block ∧ v2.ownBlock ≠ some ad.block
section
variable {w w' : World} {g : Nat} {v1 v2 v' : Value} {A : Option Addr} {n c : Nat} {bs : List Nat}
theorem InB.lt (h : InB w A n c bs) (h0 : 0 < n) {ad : Addr} (e : A = some ad) : ad.block < w.heap.size := by
  obtain ⟨ad', e', hb, -⟩ := h.rd.2 h0
  rw [e] at e'
  obtain rfl := Option.some.inj e'
  exact hb
theorem InB.bel (h : InB w A n c bs) (hb : Below w.heap.size w w') : InB w' A n c bs := ⟨h.rd.later hb, h.byt, h.len, h.le, h.mx, h.reach⟩
theorem InB.gb (h : InB w A n c bs) {r : Option Nat} (hb : w.grownBy w' r) (hne : ∀ ad, A = some ad → 0 < n → r ≠ some ad.block) : InB w' A n c bs :=
  ⟨⟨h.rd.1, fun h0 => by
    obtain ⟨ad, e, hl, hc⟩ := h.rd.2 h0
    refine ⟨ad, e, Nat.lt_of_lt_of_le hl hb.size, fun j u hu => ?_⟩
    rw [← hc j u hu]
    refine World.cell?_of_block (hb.block _ (by rw [block_of_add]; exact hl) fun e' => ?_)
    rw [block_of_add] at e'
    exact hne ad e h0 e'.symm⟩, h.byt, h.len, h.le, h.mx, h.reach⟩
theorem El.bel (h : El w g v1 v2 A n c bs) (hb : Below w.heap.size w w') : El w' g v1 v2 A n c bs := ⟨h.in_.bel hb, h.off⟩
theorem El.only (h : El w g v1 v2 A n c bs) (ho : Only g w w') : El w' g v1 v2 A n c bs := ⟨h.in_.gb ho.grown fun ad e h0 e' => (h.off ad e h0).1 (by injection e' with e'; exact e'.symm), h.off⟩
theorem El.fl (h : El w g v1 v2 A n c bs) (hb : w.grownBy w' v1.ownBlock) (hv : v'.ownBlock = v1.ownBlock ∨ v'.ownBlock = some w.heap.size) : El w' g v' v2 A n c bs :=
  ⟨h.in_.gb hb fun ad e h0 => (h.off ad e h0).2.1, fun ad e h0 => ⟨(h.off ad e h0).1, by
    rcases hv with hv | hv
    · rw [hv]; exact (h.off ad e h0).2.1
    · rw [hv]; intro e'; injection e' with e'; have := h.in_.lt h0 e; omega, (h.off ad e h0).2.2⟩⟩
theorem El.sd (h : El w g v1 v2 A n c bs) (hb : w.grownBy w' v2.ownBlock) (hv : v'.ownBlock = v2.ownBlock ∨ v'.ownBlock = some w.heap.size) : El w' g v1 v' A n c bs :=
  ⟨h.in_.gb hb fun ad e h0 => (h.off ad e h0).2.2, fun ad e h0 => ⟨(h.off ad e h0).1, (h.off ad e h0).2.1, by
    rcases hv with hv | hv
    · rw [hv]; exact (h.off ad e h0).2.2
    · rw [hv]; intro e'; injection e' with e'; have := h.in_.lt h0 e; omega⟩⟩
end
theorem Tryz.zFl : (Tryz.prog.info? 33).map (fun i => (i.zero, i.size, i.bytes)) = some (some (.slice none 0 0), 1, 24) := by kernel_rfl
theorem Tryz.zSd : (Tryz.prog.info? 62).map (fun i => (i.zero, i.size, i.bytes)) = some (some (.agg #[.int .i64 0, .int .i64 0]), 2, 16) := by kernel_rfl
theorem Tryz.bSd : (Tryz.prog.info? 62).map (fun i => (i.zero.map (·.cells.size), i.size)) = some (some 2, 2) := by kernel_rfl
theorem own_bel {w w' : World} {base size n : Nat} {t : TypeId} {v : Value} {xs : List Value} (h : w.ownsRow base t size v n xs) (hb : Below w.heap.size w w') : w'.ownsRow base t size v n xs := by
  refine ⟨h.1, ?_⟩
  rcases h.2 with h0 | ⟨g, cap, cur, hv, hg, hc, h1, h2, h3, h4⟩
  · exact .inl h0
  · refine .inr ⟨g, cap, cur, hv, hg, ?_, h1, h2, h3, h4⟩
    have hlt : g < w.heap.size := by
      rcases Nat.lt_or_ge g w.heap.size with k | k
      · exact k
      · rw [Array.getElem?_eq_none k] at hc; cases hc
    rw [hb.block g hlt]; exact hc
theorem own_gb {w w' : World} {base size n : Nat} {t : TypeId} {v : Value} {xs : List Value} {r : Option Nat} (h : w.ownsRow base t size v n xs) (hb : w.grownBy w' r) (hne : v.ownBlock = none ∨ v.ownBlock ≠ r) : w'.ownsRow base t size v n xs := h.kept hb hne
theorem own_ne {w : World} {b b' s s' n n' : Nat} {t t' : TypeId} {v v' : Value} {xs xs' : List Value} (h : w.ownsRow b t s v n xs) (h' : w.ownsRow b' t' s' v' n' xs') (hne : t' ≠ t) : v.ownBlock = none ∨ v.ownBlock ≠ v'.ownBlock := by
  rcases h.2 with ⟨rfl, _⟩ | ⟨g, cap, cur, rfl, _, hh, _⟩
  · exact .inl rfl
  · exact .inr (Ne.symm (own_blk_ne (t := t) h' (show Blk w g t cur from hh) hne))
theorem own_grown_bel {b0 : Nat} {w0 w w' : World} {e : TypeId} {size n : Nat} {v : Value} {xs : List Value} (hB : Below b0 w0 w) (hb : b0 ≤ w.heap.size) (ho : w.ownsRow b0 e size v n xs) (hg : w.grownBy w' v.ownBlock) : Below b0 w0 w' := bel_grown_own hB hb ho hg
theorem step_append_g {P : Program} {w : World} {ops : Array Oper} {o : Oper} {a : Act} {K : Act → World → Prop} {Q : Exit → Act → World → Prop} {E : Prop} (hgd : o.guard = none) (s x : Operand) (t : TypeId)
    (ho : o.op = .call { callee := .builtin .append, args := #[s, x], argTypes := #[t, t] })
    (base : Nat) (e : TypeId) (z : Value) (size bytes : Nat) (ht : P.underlying t = some (.slice e)) (hinfo : (P.info? e).map (fun i => (i.zero, i.size, i.bytes)) = some (some z, size, bytes)) (hzs : z.cells.size = size) (hsz : 0 < size)
    (v : Value) (n : Nat) (xs : List Value) (hs : a.eval s = v) (hown : w.ownsRow base e size v n xs)
    (B : Nat) (A : Option Addr) (m c : Nat) (news : List Value) (hx : a.eval x = .slice A m c) (hr : Reads w B size A m news) (h1 : ∀ u ∈ news, u.oneCell' = true)
    (hbytes : (n + m) * bytes ≤ 140737488355328) (hb0 : 0 < bytes) (hbase : base ≤ w.heap.size)
    (h : ∀ v' w', Hid (w'.ownsRow base e size v' (n + m) (xs ++ news) ∧ w.grownBy w' v.ownBlock ∧ (v'.ownBlock = v.ownBlock ∨ v'.ownBlock = some w.heap.size)) → K (a.put o.dst v') w') :
    if Region.wanted o (yielded ops a.tmps) = true then Oper.wp P o a w K Q else E := by
  obtain ⟨i, hi, h2, h3, h4⟩ := info_parts hinfo
  have h63 : n + m ≤ maxLen := by
    have : n + m ≤ (n + m) * bytes := Nat.le_mul_of_pos_right _ hb0
    unfold maxLen; omega
  exact step_append_any w hgd s x t ho base e i z size bytes ht hi h2 h3 h4 hzs hsz v n xs hs hown B A m c news hx hr h1 h63 hbytes hbase fun v' w' k1 k2 k3 => h v' w' ⟨k1, k2, k3⟩
theorem reads_new1 {w : World} {b : Nat} {t : TypeId} {u : Value} (h : Blk w b t #[u]) : Reads w w.heap.size 1 (some ⟨b, 0, none⟩) 1 [u] :=
  ⟨rfl, fun _ => ⟨_, rfl, h.lt, fun j x hx => by rw [show (⟨b, 0, none⟩ : Addr).add j = ⟨b, j, none⟩ from by unfold Addr.add; split <;> simp_all, h.cell]; simpa using hx⟩⟩
theorem reads_new2 {w : World} {b : Nat} {t : TypeId} {u v : Value} (h : Blk w b t #[u, v]) : Reads w w.heap.size 2 (some ⟨b, 0, none⟩) 1 [u, v] :=
  ⟨rfl, fun _ => ⟨_, rfl, h.lt, fun j x hx => by rw [show (⟨b, 0, none⟩ : Addr).add j = ⟨b, j, none⟩ from by unfold Addr.add; split <;> simp_all, h.cell]; simpa using hx⟩⟩
theorem mcells_snoc (S : List (Int × Int)) (a b : Int) : mcells S ++ [.int .i64 a, .int .i64 b] = mcells (S ++ [(a, b)]) := by unfold mcells; rw [List.flatMap_append]; rfl
def RetSend (b0 : Nat) (w : World) (g : Nat) (fA : Option Addr) (fn fc : Nat) (sA : Option Addr) (sc : Nat) (F : List Value) (S : List (Int × Int)) (a b : Int) (ys : List Nat) (e : Ending) (w' : World) : Prop :=
  e = .returned (.int .i64 0) ∧ ∃ A n c fA' fc' sA' sc' t1 t2 t3, NS b0 w' g fA' (fn + 1) fc' sA' sc' (F ++ [.slice A n c]) (S ++ [(a, b)]) t1 t2 t3 ∧ Below b0 w w' ∧ w.heap.size ≤ w'.heap.size ∧
    (fA = none → sA = none → 0 < ys.length → El w' g (.slice fA' (fn + 1) fc') (.slice sA' (fn + 1) sc') A n c ys) ∧
    ∀ A1 n1 c1 xs, El w g (.slice fA fn fc) (.slice sA fn sc) A1 n1 c1 xs → El w' g (.slice fA' (fn + 1) fc') (.slice sA' (fn + 1) sc') A1 n1 c1 xs
set_option maxRecDepth 100000 in
set_option maxHeartbeats 8000000 in
theorem send_any (b0 : Nat) (w : World) (g : Nat) (fA : Option Addr) (fn fc : Nat) (sA : Option Addr) (sc : Nat) (F : List Value) (S : List (Int × Int)) (t1 t2 t3 : Int) (m : MG) (HN : Hid (NS b0 w g fA fn fc sA sc F S t1 t2 t3)) (hM : Hid (MgIn w m)) (hO : Hid (MsgOk m.x)) (HFN : Hid (fn < 1000)) (HB0 : Hid (b0 ≤ w.heap.size)) (HYL : Hid ((pMsg m.x).length ≤ 1000000)) :
    Calls Tryz.prog 7 #[.pointer (some ⟨g, 0, none⟩), .agg (mgCs m)] w (RetSend b0 w g fA fn fc sA sc F S m.x.from_ m.x.to_ (pMsg m.x)) := by
  obtain ⟨ys, eys⟩ : ∃ ys, pMsg m.x = ys := ⟨_, rfl⟩
  have HBY := Lh (show Byt ys from by rw [← eys]; exact pMsg_byt hO.out)
  have HP0 := Lh (fun W (k : Below w.heap.size w W) => Put_any m W (Lh (hM.out.later k)) hO)
  rw [eys] at HP0 HYL ⊢
  obtain ⟨ks, eks⟩ : ∃ ks, mgCs m = ks := ⟨_, rfl⟩
  obtain ⟨a1, ea1⟩ : ∃ a, m.x.from_ = a := ⟨_, rfl⟩
  obtain ⟨a2, ea2⟩ : ∃ a, m.x.to_ = a := ⟨_, rfl⟩
  have K1 := Lh (show ks[1]? = some (.int .i64 a1) from by rw [← eks, ← ea1]; rfl)
  have K2 := Lh (show ks[2]? = some (.int .i64 a2) from by rw [← eks, ← ea2]; rfl)
  have HKZ := Lh (show ks.size = 27 from by rw [← eks]; rfl)
  rw [eks] at HP0
  rw [eks, ea1, ea2]
  clear eks ea1 ea2 eys
  obtain ⟨w1, ew1⟩ : ∃ w1, w.alloc (.cells ks 38) = w1 := ⟨_, rfl⟩
  have hb1 : Below w.heap.size w (w.alloc (.cells ks 38)) := (Below.refl _ _).alloc (Nat.le_refl _) _
  have hx1 := Blk.new w 38 ks
  rw [ew1] at hb1 hx1
  have HB1 := Lh hb1
  have HX1 := Lh hx1
  have HB := Lh (HN.out.blk.below hb1 HN.out.blk.lt)
  have HF := Lh (own_bel HN.out.fl hb1)
  have HS := Lh (own_bel HN.out.sd hb1)
  have HGL := Lh HN.out.blk.lt
  have HP := Lh (fun W (k : Below w1.heap.size w1 W) => HP0.out W (HB1.out.trans (k.mono HB1.out.size)))
  obtain ⟨b3, eb3⟩ : ∃ b, w.heap.size = b := ⟨_, rfl⟩
  rw [eb3] at HX1
  have EB3 := Lh eb3
  have HL3 := Lh (show g < b3 from by rw [← eb3]; exact HN.out.blk.lt)
  have c0 : w1.cell? ⟨g, 0, none⟩ = some (.bool true) := HB.out.cell 0
  have c1 : w1.cell? ⟨g, 1, none⟩ = some (.slice fA fn fc) := HB.out.cell 1
  have d1 : decide ((fn : Int) ≥ 65536) = false := decide_eq_false (by have := HFN.out; omega)
  have d2 : decide (65536 ≤ (fn : Int)) = false := decide_eq_false (by have := HFN.out; omega)
  clear hb1 hx1 hM hO HP0
  go_enter Tryz.func7, Tryz.ntmps7
  go_upto_region 5 with (first | rw [ew1] | rw [eb3])
  clear ew1 eb3 c0 d1 d2
  refine wp_region_late (S0 := fun w' => Blk w' b3 38 ks) (S := fun w' => w'.cell? ⟨g, 1, none⟩ = some (.slice fA fn fc)) 11 12 (by kernel_rfl) rfl ⟨HX1.out.drew, c1⟩ (fun wd hwd hH => ?_)
  have BWD := Lh (show Below w1.heap.size w1 wd from by rw [hwd]; exact (Below.refl _ _).drew)
  clear hwd c1
  refine tS 0 rfl ?_ hH ?_ ?_
  rotate_left
  · (intro wx hx; go_simp <;> with_reducible rfl)
  try simp only [Act.put, pA9, pZ9, pS9]
  refine tS 1 rfl ?_ hH ?_ ?_
  rotate_left
  · (intro wx hx; go_simp <;> with_reducible rfl)
  try simp only [Act.put, pA9, pZ9, pS9]
  refine tS 2 rfl ?_ hH ?_ ?_
  rotate_left
  · (intro wx hx; go_simp <;> with_reducible rfl)
  try simp only [Act.put, pA9, pZ9, pS9]
  refine tS 3 rfl ?_ hH ?_ ?_
  rotate_left
  · (intro wx hx; go_simp <;> with_reducible rfl)
  try simp only [Act.put, pA9, pZ9, pS9]
  refine wpAnyT_take 4 (v := ?_) rfl (by kernel_rfl) (fun _ _ _ h => h) (Or.inl ⟨by rfl, ?_⟩) hH ?_
  rotate_left
  · (intro wx hx; go_simp <;> with_reducible rfl)
  try simp only [Act.put, pA9, pZ9, pS9]
  refine wpAnyT_stay 5 rfl (by kernel_rfl) (fun _ _ _ h => h) (yields_load_blk rfl 38 (.tmp 3) rfl b3 38 ks _ rfl (fun w' hw' => hw') Tryz.underlying38 rfl (by rw [HKZ.out]; exact sizeMsg)) ⟨hH.1, fun _ => hH.2⟩ ?_
  try simp only [Act.put, pA9, pZ9, pS9]
  refine wpAnyT_one 6 rfl (by kernel_rfl) (fun K hQ => ?_)
  go_simp
  (go_at_call 14; refine (HP.out wd BWD.out).mono ?_; rintro e w2 ⟨A, n, c, rfl, r2, hb2, hc1, hc2⟩)
  have HB2 := Lh hb2
  have HR2 := Lh r2
  have HC1 := Lh hc1
  have HC2 := Lh hc2
  clear hb2 r2 hc1 hc2
  refine hQ.out _ _ ?_ (fun hH6 => ?_)
  · exact ⟨hH.1.below HB2.out hH.1.lt, cell_later HB2.out hH.2⟩
  clear hQ K
  try simp only [Act.put, pA9, pZ9, pS9]
  refine wpAnyT_one 7 rfl (by kernel_rfl) (fun K hQ => ?_)
  go_simp
  obtain ⟨w3, ew3⟩ : ∃ w3, w2.alloc (.cells #[.slice A n c] 33) = w3 := ⟨_, rfl⟩
  have hb3 : Below w2.heap.size w2 (w2.alloc (.cells #[.slice A n c] 33)) := (Below.refl _ _).alloc (Nat.le_refl _) _
  have hx3 := Blk.new w2 33 #[.slice A n c]
  rw [ew3] at hb3 hx3
  have HB3 := Lh hb3
  have HX3 := Lh hx3
  rw [ew3]
  clear hb3 hx3 ew3
  refine hQ.out _ _ ?_ (fun hH7 => ?_)
  · exact ⟨hH.1.below (HB2.out.trans (HB3.out.mono HB2.out.size)) hH.1.lt, cell_later (HB2.out.trans (HB3.out.mono HB2.out.size)) hH.2⟩
  clear hQ K
  try simp only [Act.put, pA9, pZ9, pS9]
  refine wpAnyT_one 8 rfl (by kernel_rfl) (fun K hQ => ?_)
  have BW3 := Lh (BWD.out.trans ((HB2.out.trans (HB3.out.mono HB2.out.size)).mono BWD.out.size))
  have HF3 := Lh (own_bel HF.out BW3.out)
  refine step_append_g rfl (.tmp 26) (.tmp 29) _ rfl b0 33 _ 1 24 Tryz.underlying42 Tryz.zFl rfl (by decide) (.slice fA fn fc) fn F rfl HF3.out w3.heap.size (some ⟨w2.heap.size, 0, none⟩) 1 1 [.slice A n c] rfl (reads_new1 HX3.out) (by intro u hu; rw [List.mem_singleton.1 hu]; rfl) (by have := HFN.out; omega) (by decide) (by have := HB0.out; have := HB1.out.size; have := BW3.out.size; omega) ?_
  rintro v4 w4 h4
  obtain ⟨ho4, hg4, hv4⟩ := h4.out
  obtain ⟨A4, c4, rfl, _, _⟩ := own_slice ho4
  have HO4 := Lh ho4
  have HG4 := Lh hg4
  have HV4 := Lh hv4
  have HX4 := Lh ((HB.out.below BW3.out HB.out.lt).grown hg4 (Ne.symm (own_blk_ne HF3.out (HB.out.below BW3.out HB.out.lt) (by decide))))
  have z0 : w4.cell? ⟨g, 1, none⟩ = some (.slice fA fn fc) := HX4.out.cell 1
  have z1 : w4.frozen? ⟨g, 1, none⟩ = false := HX4.out.frozen 1
  have HM4 := Lh ((hH.1.below (HB2.out.trans (HB3.out.mono HB2.out.size)) hH.1.lt).grown hg4 (Ne.symm (own_blk_ne HF3.out (hH.1.below (HB2.out.trans (HB3.out.mono HB2.out.size)) hH.1.lt) (by decide))))
  clear ho4 hg4 hv4 h4
  refine hQ.out _ _ ?_ (fun hH8 => ?_)
  · exact ⟨HM4.out, z0⟩
  clear hQ K
  try simp only [Act.put, pA9, pZ9, pS9]
  refine tS 9 rfl ?_ hH8 ?_ ?_
  rotate_left
  · (intro wx hx; go_simp <;> with_reducible rfl)
  try simp only [Act.put, pA9, pZ9, pS9]
  refine tS 10 rfl ?_ hH8 ?_ ?_
  rotate_left
  · (intro wx hx; go_simp <;> with_reducible rfl)
  try simp only [Act.put, pA9, pZ9, pS9]
  refine wpAnyT_last 11 rfl (by kernel_rfl) (by decide) (fun K hQ => ?_)
  go_simp
  refine hQ.out _ _ ?_ (fun hH11 => ?_)
  · exact HM4.out.far (by show b3 ≠ g; have := HL3.out; omega) _
  clear hQ K
  try simp only [Act.put, pA9, pZ9, pS9]
  refine wpAnyT_done (by kernel_rfl) ?_ _
  have HO5 := Lh (own_gb HO4.out (Only.set_ w4 g 1 (.slice A4 (fn + 1) c4)).grown (.inr (own_blk_ne HO4.out HX4.out (by decide))))
  have HS4 := Lh (own_gb (own_bel HS.out BW3.out) HG4.out (own_ne (own_bel HS.out BW3.out) HF3.out (by decide)))
  have HS5 := Lh (own_gb HS4.out (Only.set_ w4 g 1 (.slice A4 (fn + 1) c4)).grown (.inr (own_blk_ne HS4.out HX4.out (by decide))))
  have HX5 := Lh (show Blk (w4.setCell ⟨g, 1, none⟩ (.slice A4 (fn + 1) c4)) g 45 (nCs A4 (fn + 1) c4 sA fn sc t1 t2 t3) from HX4.out.set_ 1 _)
  have HM5 := Lh (HM4.out.far (p := ⟨g, 1, none⟩) (by show b3 ≠ g; have := HL3.out; omega) (.slice A4 (fn + 1) c4))
  have HN5 := Lh (Only.set_ w4 g 1 (.slice A4 (fn + 1) c4))
  have S5 := Lh (show w.heap.size ≤ (w4.setCell ⟨g, 1, none⟩ (.slice A4 (fn + 1) c4)).heap.size from by rw [HN5.out.size]; have := HG4.out.size; have := BW3.out.size; have := HB1.out.size; omega)
  clear hH hH6 hH7 hH8 hH11 z0 z1
  obtain ⟨w5, ew5⟩ : ∃ w5, w4.setCell ⟨g, 1, none⟩ (.slice A4 (fn + 1) c4) = w5 := ⟨_, rfl⟩
  rw [ew5] at HO5 HS5 HX5 HM5 HN5 S5
  have c2 : w5.cell? ⟨g, 2, none⟩ = some (.slice sA fn sc) := HX5.out.cell 2
  have k1 : w5.cell? ⟨b3, 1, none⟩ = some (.int .i64 a1) := (HM5.out.cell 1).trans K1.out
  have k2 : w5.cell? ⟨b3, 2, none⟩ = some (.int .i64 a2) := (HM5.out.cell 2).trans K2.out
  go_upto_region 6 with (rw [ew5])
  clear ew5
  refine wp_region_late (S0 := fun w' => w'.cell? ⟨b3, 1, none⟩ = some (.int .i64 a1) ∧ w'.cell? ⟨b3, 2, none⟩ = some (.int .i64 a2)) (S := fun w' => w'.cell? ⟨g, 2, none⟩ = some (.slice sA fn sc)) 14 15 (by kernel_rfl) rfl ⟨⟨k1, k2⟩, c2⟩ (fun wd6 hwd hH => ?_)
  have D6 := Lh (show Below w5.heap.size w5 wd6 from by rw [hwd]; exact (Below.refl _ _).drew)
  clear hwd k1 k2 c2
  refine tS 0 rfl ?_ hH ?_ ?_
  rotate_left
  · (intro wx hx; obtain ⟨_, _⟩ := hx; go_simp <;> with_reducible rfl)
  try simp only [Act.put, pA9, pZ9, pS9]
  refine tS 1 rfl ?_ hH ?_ ?_
  rotate_left
  · (intro wx hx; obtain ⟨_, _⟩ := hx; go_simp <;> with_reducible rfl)
  try simp only [Act.put, pA9, pZ9, pS9]
  refine tS 2 rfl ?_ hH ?_ ?_
  rotate_left
  · (intro wx hx; obtain ⟨_, _⟩ := hx; go_simp <;> with_reducible rfl)
  try simp only [Act.put, pA9, pZ9, pS9]
  refine tS 3 rfl ?_ hH ?_ ?_
  rotate_left
  · (intro wx hx; obtain ⟨_, _⟩ := hx; go_simp <;> with_reducible rfl)
  try simp only [Act.put, pA9, pZ9, pS9]
  refine wpAnyT_take 4 (v := ?_) rfl (by kernel_rfl) (fun _ _ _ h => h) (Or.inl ⟨by rfl, ?_⟩) hH ?_
  rotate_left
  · (intro wx hx; go_simp <;> with_reducible rfl)
  try simp only [Act.put, pA9, pZ9, pS9]
  refine tS 5 rfl ?_ hH ?_ ?_
  rotate_left
  · (intro wx hx; obtain ⟨_, _⟩ := hx; go_simp <;> with_reducible rfl)
  try simp only [Act.put, pA9, pZ9, pS9]
  refine tS 6 rfl ?_ hH ?_ ?_
  rotate_left
  · (intro wx hx; obtain ⟨_, _⟩ := hx; go_simp <;> with_reducible rfl)
  try simp only [Act.put, pA9, pZ9, pS9]
  refine tS 7 rfl ?_ hH ?_ ?_
  rotate_left
  · (intro wx hx; obtain ⟨_, _⟩ := hx; go_simp <;> with_reducible rfl)
  try simp only [Act.put, pA9, pZ9, pS9]
  refine tS 8 rfl ?_ hH ?_ ?_
  rotate_left
  · (intro wx hx; obtain ⟨_, _⟩ := hx; go_simp <;> with_reducible rfl)
  try simp only [Act.put, pA9, pZ9, pS9]
  refine tS 9 rfl ?_ hH ?_ ?_
  rotate_left
  · (intro wx hx; obtain ⟨_, _⟩ := hx; go_simp <;> with_reducible rfl)
  try simp only [Act.put, pA9, pZ9, pS9]
  refine wpAnyT_one 10 rfl (by kernel_rfl) (fun K hQ => ?_)
  rw [if_pos (by rfl)]
  refine wp_build1g 43 62 (.tmp 42) rfl 2 (by decide) (by decide) #[.int .i64 a1, .int .i64 a2] rfl rfl Tryz.underlying43 Tryz.bSd ?_
  obtain ⟨w6, ew6⟩ : ∃ w6, wd6.alloc (.cells #[.int .i64 a1, .int .i64 a2] 62) = w6 := ⟨_, rfl⟩
  have hb6 : Below wd6.heap.size wd6 (wd6.alloc (.cells #[.int .i64 a1, .int .i64 a2] 62)) := (Below.refl _ _).alloc (Nat.le_refl _) _
  have hx6 := Blk.new wd6 62 #[.int .i64 a1, .int .i64 a2]
  rw [ew6] at hb6 hx6
  have HB6 := Lh hb6
  have HX6 := Lh hx6
  rw [ew6]
  clear hb6 hx6 ew6
  refine hQ.out _ _ ?_ (fun hH10 => ?_)
  · exact ⟨⟨cell_later HB6.out hH.1.1, cell_later HB6.out hH.1.2⟩, cell_later HB6.out hH.2⟩
  clear hQ K
  try simp only [Act.put, pA9, pZ9, pS9]
  refine wpAnyT_one 11 rfl (by kernel_rfl) (fun K hQ => ?_)
  have BW6 := Lh (D6.out.trans (HB6.out.mono D6.out.size))
  have HS6 := Lh (own_bel HS5.out BW6.out)
  refine step_append_g rfl (.tmp 37) (.tmp 43) _ rfl b0 62 _ 2 16 Tryz.underlying43 Tryz.zSd rfl (by decide) (.slice sA fn sc) fn (mcells S) rfl HS6.out w6.heap.size (some ⟨wd6.heap.size, 0, none⟩) 1 1 [.int .i64 a1, .int .i64 a2] rfl (reads_new2 HX6.out) (by intro u hu; rcases List.mem_cons.1 hu with rfl | hu; rfl; rw [List.mem_singleton.1 hu]; rfl) (by have := HFN.out; omega) (by decide) (by have := HB0.out; have := S5.out; have := BW6.out.size; omega) ?_
  rintro v7 w7 h7
  obtain ⟨ho7, hg7, hv7⟩ := h7.out
  obtain ⟨A7, c7, rfl, _, _⟩ := own_slice ho7
  have HO7 := Lh ho7
  have HG7 := Lh hg7
  have HV7 := Lh hv7
  have HX7 := Lh ((HX5.out.below BW6.out HX5.out.lt).grown hg7 (Ne.symm (own_blk_ne HS6.out (HX5.out.below BW6.out HX5.out.lt) (by decide))))
  have z0 : w7.cell? ⟨g, 2, none⟩ = some (.slice sA fn sc) := HX7.out.cell 2
  have z1 : w7.frozen? ⟨g, 2, none⟩ = false := HX7.out.frozen 2
  have HM7 := Lh ((HM5.out.below BW6.out HM5.out.lt).grown hg7 (Ne.symm (own_blk_ne HS6.out (HM5.out.below BW6.out HM5.out.lt) (by decide))))
  clear ho7 hg7 hv7 h7
  refine hQ.out _ _ ?_ (fun hH11 => ?_)
  · exact ⟨⟨(HM7.out.cell 1).trans K1.out, (HM7.out.cell 2).trans K2.out⟩, z0⟩
  clear hQ K
  try simp only [Act.put, pA9, pZ9, pS9]
  refine tS 12 rfl ?_ hH11 ?_ ?_
  rotate_left
  · (intro wx hx; obtain ⟨_, _⟩ := hx; go_simp <;> with_reducible rfl)
  try simp only [Act.put, pA9, pZ9, pS9]
  refine tS 13 rfl ?_ hH11 ?_ ?_
  rotate_left
  · (intro wx hx; obtain ⟨_, _⟩ := hx; go_simp <;> with_reducible rfl)
  try simp only [Act.put, pA9, pZ9, pS9]
  refine wpAnyT_last 14 rfl (by kernel_rfl) (by decide) (fun K hQ => ?_)
  go_simp
  refine hQ.out _ _ ?_ (fun hH14 => ?_)
  · exact ⟨((HM7.out.far (by show b3 ≠ g; have := HL3.out; omega) _).cell 1).trans K1.out, ((HM7.out.far (by show b3 ≠ g; have := HL3.out; omega) _).cell 2).trans K2.out⟩
  clear hQ K
  try simp only [Act.put, pA9, pZ9, pS9]
  refine wpAnyT_done (by kernel_rfl) ?_ _
  have HX8 := Lh (show Blk (w7.setCell ⟨g, 2, none⟩ (.slice A7 (fn + 1) c7)) g 45 (nCs A4 (fn + 1) c4 A7 (fn + 1) c7 t1 t2 t3) from HX7.out.set_ 2 _)
  have HF7 := Lh (own_gb (own_bel HO5.out BW6.out) HG7.out (own_ne (own_bel HO5.out BW6.out) HS6.out (by decide)))
  have HN8 := Lh (Only.set_ w7 g 2 (.slice A7 (fn + 1) c7))
  have HF8 := Lh (own_gb HF7.out HN8.out.grown (.inr (own_blk_ne HF7.out HX7.out (by decide))))
  have HS8 := Lh (own_gb HO7.out HN8.out.grown (.inr (own_blk_ne HO7.out HX7.out (by decide))))
  clear hH hH10 hH11 hH14 z0 z1
  obtain ⟨w8, ew8⟩ : ∃ w8, w7.setCell ⟨g, 2, none⟩ (.slice A7 (fn + 1) c7) = w8 := ⟨_, rfl⟩
  rw [ew8] at HX8 HN8 HF8 HS8
  have c3 : w8.cell? ⟨g, 3, none⟩ = some (.int .i64 t1) := HX8.out.cell 3
  have f3 : w8.frozen? ⟨g, 3, none⟩ = false := HX8.out.frozen 3
  obtain ⟨q, hq⟩ : ∃ q, IntKind.i64.wrap (t1 + 1) = q := ⟨_, rfl⟩
  go_wp2_with (first | rw [ew8] | rw [hq])
  have HX9 := Lh (show Blk (w8.setCell ⟨g, 3, none⟩ (.int .i64 q)) g 45 (nCs A4 (fn + 1) c4 A7 (fn + 1) c7 q t2 t3) from HX8.out.set_ 3 _)
  have HN9 := Lh (Only.set_ w8 g 3 (.int .i64 q))
  have HF9 := Lh (own_gb HF8.out HN9.out.grown (.inr (own_blk_ne HF8.out HX8.out (by decide))))
  have HS9 := Lh (own_gb HS8.out HN9.out.grown (.inr (own_blk_ne HS8.out HX8.out (by decide))))
  rw [mcells_snoc] at HS9
  have hge := HN.out.ge
  have step : ∀ A1 n1 c1 xs, El w4 g (.slice A4 (fn + 1) c4) (.slice sA fn sc) A1 n1 c1 xs → El (w8.setCell ⟨g, 3, none⟩ (.int .i64 q)) g (.slice A4 (fn + 1) c4) (.slice A7 (fn + 1) c7) A1 n1 c1 xs := fun A1 n1 c1 xs h =>
    ((((h.only HN5.out).bel BW6.out).sd HG7.out HV7.out).only HN8.out).only HN9.out
  have bel : Below b0 w (w8.setCell ⟨g, 3, none⟩ (.int .i64 q)) := by
    have h1 : Below b0 w w3 := (HB1.out.mono HB0.out).trans (BW3.out.mono (Nat.le_trans HB0.out HB1.out.size))
    have h4 := own_grown_bel h1 (Nat.le_trans HB0.out (Nat.le_trans HB1.out.size BW3.out.size)) HF3.out HG4.out
    have h5 := h4.trans (HN5.out.below hge)
    have h6 := h5.trans (BW6.out.mono (Nat.le_trans HB0.out S5.out))
    have h7 := own_grown_bel h6 (Nat.le_trans HB0.out (Nat.le_trans S5.out BW6.out.size)) HS6.out HG7.out
    exact (h7.trans (HN8.out.below hge)).trans (HN9.out.below hge)
  go_ret
  refine ⟨rfl, A, n, c, A4, c4, A7, c7, q, t2, t3, ⟨HX9.out, HF9.out, HS9.out, hge⟩, bel, ?_, fun ef es h0 => step A n c ys ?_, fun A1 n1 c1 xs h => step A1 n1 c1 xs (((h.bel HB1.out).bel BW3.out).fl HG4.out HV4.out)⟩
  · rw [HN9.out.size, HN8.out.size]
    have := HG7.out.size; have := BW6.out.size; have := S5.out; omega
  · refine El.fl (v1 := .slice fA fn fc) ⟨InB.bel ⟨HR2.out, HBY.out, ?_, HC1.out, HC2.out, ?_⟩ HB3.out, fun ad e h0 => ?_⟩ HG4.out HV4.out
    · have := HR2.out.1; simpa using this
    · have h1 := HR2.out.1
      have h2 := HYL.out
      rw [List.length_map] at h1
      omega
    · refine ⟨?_, by rw [ef]; simp [Value.ownBlock], by rw [es]; simp [Value.ownBlock]⟩
      exact u8_apart ((HB.out.below BW3.out HB.out.lt)) (by rfl) (HR2.out.later HB3.out) h0 ad e
end Go.Proofs.YtijdbdenmcjmmaaGreatDoor
end
section
namespace Go.Proofs.YtijdbdenmcjmmaaGreatDoor
open Go.RowKit OctMath
set_option linter.unusedVariables false
set_option linter.unusedSimpArgs false
theorem NS.later {b0 : Nat} {w w' : World} {g : Nat} {fA : Option Addr} {fn fc : Nat} {sA : Option Addr} {sc : Nat} {F : List Value} {S : List (Int × Int)} {t1 t2 t3 : Int} (h : NS b0 w g fA fn fc sA sc F S t1 t2 t3) (hb : Below w.heap.size w w') : NS b0 w' g fA fn fc sA sc F S t1 t2 t3 :=
  ⟨h.blk.below hb h.blk.lt, own_bel h.fl hb, own_bel h.sd hb, h.ge⟩
set_option maxRecDepth 100000 in
theorem len_any (b0 : Nat) (w : World) (g : Nat) (fA : Option Addr) (fn fc : Nat) (sA : Option Addr) (sc : Nat) (F : List Value) (S : List (Int × Int)) (t1 t2 t3 : Int) (HN : Hid (NS b0 w g fA fn fc sA sc F S t1 t2 t3)) : Calls Tryz.prog 10 #[.pointer (some ⟨g, 0, none⟩)] w fun e w' => e = .returned (.int .i64 fn) ∧ w' = w := by
  have c1 : w.cell? ⟨g, 1, none⟩ = some (.slice fA fn fc) := HN.out.blk.cell 1
  clear HN
  go_enter Tryz.func10, Tryz.ntmps10
  go_wp2
  go_ret
  exact ⟨rfl, rfl⟩
set_option maxRecDepth 100000 in
theorem new_any (w : World) : Calls Tryz.prog 16 #[] w fun e w' => e = .returned (.pointer (some ⟨w.heap.size, 0, none⟩)) ∧ NS w.heap.size w' w.heap.size none 0 0 none 0 [] [] 0 0 0 ∧ Below w.heap.size w w' := by
  go_enter Tryz.func16, Tryz.ntmps16
  go_wp2
  go_ret
  exact ⟨rfl, ⟨Blk.new w _ _, ⟨rfl, .inl ⟨rfl, rfl⟩⟩, ⟨rfl, .inl ⟨rfl, rfl⟩⟩, Nat.le_refl _⟩, (Below.refl _ _).alloc (Nat.le_refl _) _⟩
def RetPk (x : MsgT) (w : World) (e : Ending) (w' : World) : Prop := ∃ m : MG, m.x = x ∧ e = .returned (.tuple #[.agg (mgCs m), .int .i64 0]) ∧ Below w.heap.size w w'
set_option maxRecDepth 100000 in
set_option maxHeartbeats 4000000 in
theorem peek0_any (b0 : Nat) (w : World) (g : Nat) (fA : Option Addr) (fn fc : Nat) (sA : Option Addr) (sc : Nat) (F : List Value) (S : List (Int × Int)) (t1 t2 t3 : Int) (HN : Hid (NS b0 w g fA fn fc sA sc F S t1 t2 t3)) (A : Option Addr) (n c : Nat) (bs : List Nat) (HE : Hid (InB w A n c bs)) (HF0 : Hid (F[0]? = some (.slice A n c))) (x : MsgT) (HX : Hid (rMsg bs 0 = some (x, n))) (hg : Hid (GE w)) :
    Calls Tryz.prog 5 #[.pointer (some ⟨g, 0, none⟩), .int .i64 0] w (RetPk x w) := by
  have hfl := HN.out.fl
  have h0 : 0 < fn := by
    have h1 := hfl.1
    have h2 := (List.getElem?_eq_some_iff.1 HF0.out).1
    omega
  obtain ⟨fb, fcap, ev, hb0, hlt⟩ := hfl.form h0
  injection ev with e1 e2 e3
  subst e1
  have HFL := Lh hlt
  have HGT := Lh (fun W (k : Below w.heap.size w W) => Get_any A n c bs W (Lh (HE.out.bel k)) (Lh (hg.out.later k)))
  have hc0 := hfl.cells (g := fb) rfl 0 _ HF0.out
  rw [show (⟨fb, 0, none⟩ : Addr).add 0 = ⟨fb, 0, none⟩ from rfl] at hc0
  obtain ⟨w1, ew⟩ : ∃ w1, w.alloc (.cells msgZ 38) = w1 := ⟨_, rfl⟩
  have hb1 : Below w.heap.size w (w.alloc (.cells msgZ 38)) := (Below.refl _ _).alloc (Nat.le_refl _) _
  have hz := Blk.new w 38 msgZ
  rw [ew] at hb1 hz
  have ew2 : w.alloc (.cells #[.int .i64 0, .int .i64 0, .int .i64 0, .int .u64 0, .int .u64 0, .int .u64 0, .int .u64 0, .int .u64 0, .bool false, .bool false, .slice none 0 0, .slice none 0 0, .slice none 0 0, .int .u64 0, .int .i64 0, .int .u64 0, .int .i64 0, .int .i64 0, .int .i64 0, .int .u32 0, .slice none 0 0, .int .u64 0, .int .u64 0, .int .i64 0, .string ⟨#[]⟩, .int .i64 0, .slice none 0 0] 38) = w1 := ew
  have HB1 := Lh hb1
  have HZ := Lh hz
  have HG1 := Lh (HN.out.blk.below hb1 HN.out.blk.lt)
  have c0 : w1.cell? ⟨g, 0, none⟩ = some (.bool true) := HG1.out.cell 0
  have c1 : w1.cell? ⟨g, 1, none⟩ = some (.slice (some ⟨fb, 0, none⟩) fn fc) := HG1.out.cell 1
  have c2 : w1.cell? ⟨fb, 0, none⟩ = some (.slice A n c) := (hb1.cell (p := ⟨fb, 0, none⟩) hlt).trans hc0
  obtain ⟨b, eb⟩ : ∃ b, w.heap.size = b := ⟨_, rfl⟩
  have EB := Lh eb
  rw [eb] at HZ
  have d1 : decide ((0 : Int) ≥ (fn : Int)) = false := decide_eq_false (by omega)
  have d2 : decide ((fn : Int) ≤ 0) = false := decide_eq_false (by omega)
  have d3 : (0 : Int) < (fn : Int) := by omega
  clear hb1 hz ew hc0 hfl hb0 hlt e2 e3
  go_enter Tryz.func5, Tryz.ntmps5
  go_wp2_with (first
    | rw [ew2]
    | rw [eb]
    | (go_at_call 13; refine (HGT.out w1 HB1.out).mono ?_; rintro e w2 ⟨hb2, hm⟩
       rw [HX.out] at hm
       simp only [if_pos] at hm
       obtain ⟨m, hmx, rfl, -, -⟩ := hm
       have HB2 := Lh hb2
       have HZ2 := Lh (HZ.out.below hb2 HZ.out.lt)
       have HMX := Lh hmx
       obtain ⟨cs, ecs⟩ : ∃ cs, mgCs m = cs := ⟨_, rfl⟩
       have ECS := Lh ecs
       have HSZ := Lh (show cs.size = 27 from by rw [← ecs]; rfl)
       have HONE := Lh (show cs.toList.all (·.oneCell') = true from by rw [← ecs]; rfl)
       rw [ecs]
       clear hb2 hmx ecs)
    | (refine wpl_store_blk rfl 38 (.tmp 4) (.tmp 38) rfl b 38 msgZ cs rfl rfl HZ2.out (by rw [HSZ.out]; rfl) (by rw [HSZ.out]; exact sizeMsg) HONE.out ?_; intro w3 hB3 hO3))
  clear ew2 eb
  refine bodyPost_ret (res_ct Tryz.results5 rfl rfl (load_blk hB3.out Tryz.underlying38 rfl (by rw [HSZ.out]; exact sizeMsg))) rfl ⟨m, HMX.out, by rw [ECS.out]; rfl, ?_⟩
  have hfin := (HB1.out.trans (HB2.out.mono HB1.out.size)).trans (hO3.out.below (by rw [EB.out]; exact Nat.le_refl _))
  first | exact hfin | (rw [EB.out] at hfin; exact hfin)
set_option maxRecDepth 100000 in
set_option maxHeartbeats 4000000 in
theorem peek_out (b0 : Nat) (w : World) (g : Nat) (fA : Option Addr) (fn fc : Nat) (sA : Option Addr) (sc : Nat) (F : List Value) (S : List (Int × Int)) (t1 t2 t3 : Int) (HN : Hid (NS b0 w g fA fn fc sA sc F S t1 t2 t3)) (i : Nat) (hi : fn ≤ i) (hi2 : i < 1000000) :
    Calls Tryz.prog 5 #[.pointer (some ⟨g, 0, none⟩), .int .i64 i] w fun e w' => e = .returned (.tuple #[.agg msgZ, .int .i64 160]) ∧ Below w.heap.size w w' := by
  obtain ⟨w1, ew⟩ : ∃ w1, w.alloc (.cells msgZ 38) = w1 := ⟨_, rfl⟩
  have hb1 : Below w.heap.size w (w.alloc (.cells msgZ 38)) := (Below.refl _ _).alloc (Nat.le_refl _) _
  have hz := Blk.new w 38 msgZ
  rw [ew] at hb1 hz
  have ew2 : w.alloc (.cells #[.int .i64 0, .int .i64 0, .int .i64 0, .int .u64 0, .int .u64 0, .int .u64 0, .int .u64 0, .int .u64 0, .bool false, .bool false, .slice none 0 0, .slice none 0 0, .slice none 0 0, .int .u64 0, .int .i64 0, .int .u64 0, .int .i64 0, .int .i64 0, .int .i64 0, .int .u32 0, .slice none 0 0, .int .u64 0, .int .u64 0, .int .i64 0, .string ⟨#[]⟩, .int .i64 0, .slice none 0 0] 38) = w1 := ew
  have HB1 := Lh hb1
  have HZ := Lh hz
  have HG1 := Lh (HN.out.blk.below hb1 HN.out.blk.lt)
  have c0 : w1.cell? ⟨g, 0, none⟩ = some (.bool true) := HG1.out.cell 0
  have c1 : w1.cell? ⟨g, 1, none⟩ = some (.slice fA fn fc) := HG1.out.cell 1
  obtain ⟨b, eb⟩ : ∃ b, w.heap.size = b := ⟨_, rfl⟩
  have EB := Lh eb
  rw [eb] at HZ
  have d0 : decide ((i : Int) < 0) = false := decide_eq_false (by omega)
  have d1 : decide ((i : Int) ≥ (fn : Int)) = true := decide_eq_true (by omega)
  have d2 : decide ((fn : Int) ≤ (i : Int)) = true := decide_eq_true (by omega)
  have d3 : decide (fn ≤ i) = true := decide_eq_true (by omega)
  clear hb1 hz ew hi hi2
  go_enter Tryz.func5, Tryz.ntmps5
  go_wp2_with (first
    | rw [ew2]
    | rw [eb]
    | (refine wpl_store_blk rfl 38 (.tmp 4) (.tmp 29) rfl b 38 msgZ msgZ rfl rfl HZ.out rfl sizeMsg rfl ?_; intro w3 hB3 hO3))
  clear ew2 eb
  refine bodyPost_ret (res_ct Tryz.results5 rfl rfl (load_blk hB3.out Tryz.underlying38 rfl sizeMsg)) rfl ⟨rfl, ?_⟩
  have hfin := HB1.out.trans (hO3.out.below (by rw [EB.out]; exact Nat.le_refl _))
  first | exact hfin | (rw [EB.out] at hfin; exact hfin)
end Go.Proofs.YtijdbdenmcjmmaaGreatDoor
end
