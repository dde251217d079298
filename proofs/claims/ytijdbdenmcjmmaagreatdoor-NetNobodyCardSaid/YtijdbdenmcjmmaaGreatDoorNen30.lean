/-
  A NET THAT WAS MADE: its first frame doubled. (printed by gen_nt4.py). (joined out of NtD by shake.py)
-/
import Derived.Test.YtijdbdenmcjmmaaGreatDoorNen29
section
namespace Go.Proofs.YtijdbdenmcjmmaaGreatDoor
open Go.RowKit OctMath
set_option linter.unusedVariables false
set_option linter.unusedSimpArgs false
theorem run_append_zero {P : Program} (w : World) (base : Nat) (t ty e : TypeId) (i : TypeInfo) (z : Value) (size bytes : Nat) (ht : P.underlying t = some (.slice e)) (hi : P.info? e = some i) (hz : i.zero = some z)
    (hsize : i.size = size) (hby : i.bytes = bytes) (hzs : z.cells.size = size) (b a : Addr) (m c : Nat) (news : List Value) (hl : news.length = m * size) (hnews : ∀ j u, news[j]? = some u → w.cell? (a.add j) = some u)
    (hm : 0 < m) (h63 : m ≤ maxLen) (hbytes : m * bytes ≤ 140737488355328) (hbase : base ≤ w.heap.size) :
    ∃ cap w', (Builtin.append_ #[t, t] ty #[.slice (some b) 0 0, .slice (some a) m c]).run P w = .ok (.slice (some ⟨w.heap.size, 0, none⟩) m cap) w' ∧ w'.ownsRow base e size (.slice (some ⟨w.heap.size, 0, none⟩) m cap) m news ∧ Below w.heap.size w w' := by
  subst hsize
  subst hby
  have h63' : m ≤ 9223372036854775807 := by simp only [maxLen] at h63; omega
  have hr := run_append_grow (P := P) w t ty e i z ht hi hz b 0 0 [] (by simp) (by intro j v h; simp at h) a m c news hl hnews (by omega) (by omega) (by have := growslice_fits (need := m) (old := 0) (bytes := i.bytes) (by omega) hbytes; simpa using this)
  simp only [Nat.zero_add] at hr
  refine ⟨_, _, hr, ⟨hl, .inr ⟨w.heap.size, _, _, rfl, hbase, heap_alloc_new w.drew _, grownCap_ge w m 0 e, grownCap_le_maxLen w m 0 e h63, ?_, ?_⟩⟩, (Below.refl _ _).drew.alloc (by simp) _⟩
  · have hge := grownCap_ge w m 0 e
    simp only [Array.size_append, List.size_toArray, size_zeroCells, hzs, hl, List.length_nil, Nat.zero_add, ← Nat.add_mul]
    congr 1
    omega
  · simp only [Array.toList_append, List.append_assoc]
    show List.take (m * i.size) ([] ++ (news ++ _)) = news
    rw [List.nil_append, ← hl]
    exact List.take_left
theorem step_append_z {P : Program} {w : World} {ops : Array Oper} {o : Oper} {a : Act} {K : Act → World → Prop} {Q : Exit → Act → World → Prop} {E : Prop} (hgd : o.guard = none) (s x : Operand) (t : TypeId)
    (ho : o.op = .call { callee := .builtin .append, args := #[s, x], argTypes := #[t, t] })
    (base : Nat) (e : TypeId) (z : Value) (size bytes : Nat) (ht : P.underlying t = some (.slice e)) (hinfo : (P.info? e).map (fun i => (i.zero, i.size, i.bytes)) = some (some z, size, bytes)) (hzs : z.cells.size = size)
    (b ad : Addr) (m c : Nat) (news : List Value) (hs : a.eval s = .slice (some b) 0 0) (hx : a.eval x = .slice (some ad) m c) (hl : news.length = m * size) (hnews : ∀ j u, news[j]? = some u → w.cell? (ad.add j) = some u)
    (hm : 0 < m) (hbytes : m * bytes ≤ 140737488355328) (hb0 : 0 < bytes) (hbase : base ≤ w.heap.size)
    (h : ∀ cap w', Hid (w'.ownsRow base e size (.slice (some ⟨w.heap.size, 0, none⟩) m cap) m news ∧ Below w.heap.size w w') → K (a.put o.dst (.slice (some ⟨w.heap.size, 0, none⟩) m cap)) w') :
    if Region.wanted o (yielded ops a.tmps) = true then Oper.wp P o a w K Q else E := by
  obtain ⟨i, hi, h2, h3, h4⟩ := info_parts hinfo
  have h63 : m ≤ maxLen := by
    have : m ≤ m * bytes := Nat.le_mul_of_pos_right _ hb0
    unfold maxLen; omega
  obtain ⟨cap, w', hrun, k1, k2⟩ := run_append_zero (P := P) w base t o.type e i z size bytes ht hi h2 h3 h4 hzs b ad m c news hl hnews hm h63 hbytes hbase
  have hw : Region.wanted o (yielded ops a.tmps) = true := by simp [Region.wanted, hgd]
  rw [if_pos hw]
  unfold Oper.wp execOp
  simp only [ho, resolve, invoke, builtin, Sem.run_bind, Sem.run_pure, Result.andThen_ok, List.map_toArray, List.map_cons, List.map_nil, hs, hx, hrun]
  exact h cap w' ⟨k1, k2⟩
theorem slice_00 {P : Program} {t e : TypeId} {i : TypeInfo} {size : Nat} (ht : P.underlying t = some (.slice e)) (hi : P.info? e = some i) (hs : i.size = size) (ad : Addr) (n cap : Nat) (W : World) :
    (Instr.sliceAt t (.slice (some ad) n cap) none (some (.int .i64 0)) (some (.int .i64 0))).run P W = .ok (.slice (some ad) 0 0) W := by
  simp [Instr.sliceAt, run_underlying ht, Instr.slice, Instr.sliceBounds, Instr.sliceBound, asIntOf, sizeOf, typeInfo, hi, hs]
theorem mcells_drop (S : List (Int × Int)) : (mcells S).drop 2 = mcells (S.drop 1) := by
  cases S with
  | nil => rfl
  | cons x S => rfl
theorem mcells_first {S : List (Int × Int)} {a b : Int} (h : S[0]? = some (a, b)) : (mcells S)[0]? = some (.int .i64 a) ∧ (mcells S)[1]? = some (.int .i64 b) := by
  cases S with
  | nil => simp at h
  | cons x S => simp at h; subst h; exact ⟨rfl, rfl⟩
def RetDbl (b0 : Nat) (w : World) (g : Nat) (fA : Option Addr) (fn fc : Nat) (sA : Option Addr) (sc : Nat) (F : List Value) (S : List (Int × Int)) (u : Value) (a b : Int) (e : Ending) (w' : World) : Prop :=
  e = .returned (.int .i64 0) ∧ ∃ fA' fc' sA' sc' t1 t2 t3, NS b0 w' g fA' (fn + 1) fc' sA' sc' (F ++ [u]) (S ++ [(a, b)]) t1 t2 t3 ∧ Below b0 w w' ∧ w.heap.size ≤ w'.heap.size ∧
    ∀ A1 n1 c1 xs, El w g (.slice fA fn fc) (.slice sA fn sc) A1 n1 c1 xs → El w' g (.slice fA' (fn + 1) fc') (.slice sA' (fn + 1) sc') A1 n1 c1 xs
set_option maxRecDepth 100000 in
set_option maxHeartbeats 8000000 in
theorem double0_any (b0 : Nat) (w : World) (g : Nat) (fA : Option Addr) (fn fc : Nat) (sA : Option Addr) (sc : Nat) (F : List Value) (S : List (Int × Int)) (t1 t2 t3 : Int) (HN : Hid (NS b0 w g fA fn fc sA sc F S t1 t2 t3)) (A : Option Addr) (n c : Nat) (bs : List Nat) (HE : Hid (InB w A n c bs)) (HF0 : Hid (F[0]? = some (.slice A n c))) (a1 a2 : Int) (HS0 : Hid (S[0]? = some (a1, a2))) (x : MsgT) (HX : Hid (rMsg bs 0 = some (x, n))) (hg : Hid (GE w)) (HFN : Hid (fn < 1000)) (HB0 : Hid (b0 ≤ w.heap.size)) :
    Calls Tryz.prog 8 #[.pointer (some ⟨g, 0, none⟩), .int .i64 0] w (RetDbl b0 w g fA fn fc sA sc F S (.slice A n c) a1 a2) := by
  have HPK := Lh (peek0_any b0 w g fA fn fc sA sc F S t1 t2 t3 HN A n c bs HE HF0 x HX hg)
  have h0 : 0 < fn := by
    have h1 := HN.out.fl.1
    have h2 := (List.getElem?_eq_some_iff.1 HF0.out).1
    omega
  obtain ⟨fb, fcap, ev, _, hltf⟩ := HN.out.fl.form h0
  injection ev with e1 e2 e3
  subst e1
  obtain ⟨sb, scap, ev, _, hlts⟩ := HN.out.sd.form h0
  injection ev with e1 e4 e5
  subst e1
  have hf0 : w.cell? ⟨fb, 0, none⟩ = some (.slice A n c) := HN.out.fl.cells (g := fb) rfl 0 _ HF0.out
  have hs0 : w.cell? ⟨sb, 0, none⟩ = some (.int .i64 a1) := HN.out.sd.cells (g := sb) rfl 0 _ (mcells_first HS0.out).1
  have hs1 : w.cell? ⟨sb, 1, none⟩ = some (.int .i64 a2) := HN.out.sd.cells (g := sb) rfl 1 _ (mcells_first HS0.out).2
  have HLF := Lh hltf
  have HLS := Lh hlts
  have HGF := Lh (show fb ≠ g from fun e => own_blk_ne HN.out.fl HN.out.blk (by decide) (by rw [← e]; rfl))
  have HGS := Lh (show sb ≠ g from fun e => own_blk_ne HN.out.sd HN.out.blk (by decide) (by rw [← e]; rfl))
  clear e2 e3 e4 e5 hltf hlts
  have d1 : decide ((fn : Int) ≥ 65536) = false := decide_eq_false (by have := HFN.out; omega)
  have d2 : decide (65536 ≤ (fn : Int)) = false := decide_eq_false (by have := HFN.out; omega)
  have d3 : (0 : Int) < (fn : Int) := by omega
  have HD3 := Lh d3
  have HFC := Lh hf0
  have HSC0 := Lh hs0
  have HSC1 := Lh hs1
  clear hf0 hs0 hs1 d3
  go_enter Tryz.func8, Tryz.ntmps8
  go_upto_region 2 with (first
    | (go_at_call 5; refine (HPK.out).mono ?_; rintro e w1 ⟨m, hmx, rfl, hb1⟩
       have HB1 := Lh (hb1)
       have HMX := Lh hmx
       obtain ⟨cs, ecs⟩ : ∃ cs, mgCs m = cs := ⟨_, rfl⟩
       have ECS := Lh ecs
       have HSZ := Lh (show cs.size = 27 from by rw [← ecs]; rfl)
       have HONE := Lh (show cs.toList.all (·.oneCell') = true from by rw [← ecs]; rfl)
       rw [ecs]
       have HNW := Lh (Blk.new w1 38 msgZ)
       clear hb1 hmx ecs)
    | (refine wpl_store_blk rfl 38 (.tmp 5) (.tmp 11) rfl w1.heap.size 38 msgZ cs rfl rfl HNW.out (by rw [HSZ.out]; rfl) (by rw [HSZ.out]; exact sizeMsg) HONE.out ?_; intro w2 hB2 hO2))
  have HB2 := Lh (HB1.out.trans ((((Below.refl w1.heap.size w1).alloc (Nat.le_refl _) (.cells msgZ 38)).trans (hO2.out.below (Nat.le_refl _))).mono HB1.out.size))
  have HB := Lh (HN.out.blk.below HB2.out HN.out.blk.lt)
  have HF := Lh (own_bel HN.out.fl HB2.out)
  have HS := Lh (own_bel HN.out.sd HB2.out)
  have c1 : w2.cell? ⟨g, 1, none⟩ = some (.slice (some ⟨fb, 0, none⟩) fn fc) := HB.out.cell 1
  have f0 : w2.cell? ⟨fb, 0, none⟩ = some (.slice A n c) := (HB2.out.cell (p := ⟨fb, 0, none⟩) HLF.out).trans HFC.out
  clear hB2 hO2 HB1
  have HB1 := HB2
  have d3 := HD3.out
  go_upto_region 6 with (fail)
  clear d1 d2
  refine wp_region_late (S0 := fun _ => True) (S := fun w' => w'.cell? ⟨g, 1, none⟩ = some (.slice (some ⟨fb, 0, none⟩) fn fc) ∧ w'.cell? ⟨fb, 0, none⟩ = some (.slice A n c)) 13 17 (by kernel_rfl) rfl ⟨trivial, c1, f0⟩ (fun wd hwd hH => ?_)
  have BWD := Lh (show Below w2.heap.size w2 wd from by rw [hwd]; exact (Below.refl _ _).drew)
  clear hwd c1 f0
  refine tS 0 rfl ?_ hH ?_ ?_
  rotate_left
  · (intro wx hx; go_simp <;> with_reducible rfl)
  try simp only [Act.put, pA9, pZ9, pS9]
  refine tS 1 rfl ?_ hH ?_ ?_
  rotate_left
  · (intro wx hx; go_simp <;> with_reducible rfl)
  try simp only [Act.put, pA9, pZ9, pS9]
  refine tS 2 rfl ?_ hH ?_ ?_
  rotate_left
  · (intro wx hx; go_simp <;> with_reducible rfl)
  try simp only [Act.put, pA9, pZ9, pS9]
  refine tS 3 rfl ?_ hH ?_ ?_
  rotate_left
  · (intro wx hx; go_simp <;> with_reducible rfl)
  try simp only [Act.put, pA9, pZ9, pS9]
  refine wpAnyT_take 4 (v := ?_) rfl (by kernel_rfl) (fun _ _ _ h => h) (Or.inl ⟨by rfl, ?_⟩) hH ?_
  rotate_left
  · (intro wx hx; obtain ⟨_, _⟩ := hx; go_simp <;> with_reducible rfl)
  try simp only [Act.put, pA9, pZ9, pS9]
  refine tS 5 rfl ?_ hH ?_ ?_
  rotate_left
  · (intro wx hx; go_simp <;> with_reducible rfl)
  try simp only [Act.put, pA9, pZ9, pS9]
  refine tS 6 rfl ?_ hH ?_ ?_
  rotate_left
  · (intro wx hx; go_simp <;> with_reducible rfl)
  try simp only [Act.put, pA9, pZ9, pS9]
  refine tS 7 rfl ?_ hH ?_ ?_
  rotate_left
  · (intro wx hx; go_simp <;> with_reducible rfl)
  try simp only [Act.put, pA9, pZ9, pS9]
  refine wpAnyT_take 8 (v := ?_) rfl (by kernel_rfl) (fun _ _ _ h => h) (Or.inl ⟨by rfl, ?_⟩) hH ?_
  rotate_left
  · (intro wx hx; obtain ⟨_, _⟩ := hx; go_simp <;> with_reducible rfl)
  try simp only [Act.put, pA9, pZ9, pS9]
  refine tS 9 rfl ?_ hH ?_ ?_
  rotate_left
  · (intro wx hx; go_simp <;> with_reducible rfl)
  try simp only [Act.put, pA9, pZ9, pS9]
  refine tS 10 rfl ?_ hH ?_ ?_
  rotate_left
  · (intro wx hx; go_simp <;> with_reducible rfl)
  try simp only [Act.put, pA9, pZ9, pS9]
  refine wpAnyT_take 11 (v := ?_) rfl (by kernel_rfl) (fun _ _ _ h => h) (Or.inl ⟨by rfl, ?_⟩) hH ?_
  rotate_left
  · (intro wx hx; obtain ⟨_, _⟩ := hx; go_simp <;> with_reducible rfl)
  try simp only [Act.put, pA9, pZ9, pS9]
  refine wpAnyT_one 12 rfl (by kernel_rfl) (fun K hQ => ?_)
  go_simp
  obtain ⟨w3, ew3⟩ : ∃ w3, wd.alloc (.cells #[.slice A n c] 33) = w3 := ⟨_, rfl⟩
  have hb3 : Below wd.heap.size wd (wd.alloc (.cells #[.slice A n c] 33)) := (Below.refl _ _).alloc (Nat.le_refl _) _
  have hx3 := Blk.new wd 33 #[.slice A n c]
  rw [ew3] at hb3 hx3
  have HB3 := Lh hb3
  have HX3 := Lh hx3
  rw [ew3]
  clear hb3 hx3 ew3
  refine hQ.out _ _ ?_ (fun hH12 => ?_)
  · exact ⟨trivial, cell_later HB3.out hH.2.1, cell_later HB3.out hH.2.2⟩
  clear hQ K
  try simp only [Act.put, pA9, pZ9, pS9]
  refine wpAnyT_last 13 rfl (by kernel_rfl) (by decide) (fun K hQ => ?_)
  have BW3 := Lh (BWD.out.trans (HB3.out.mono BWD.out.size))
  have HF3 := Lh (own_bel HF.out BW3.out)
  refine step_append_g rfl (.tmp 26) (.tmp 34) _ rfl b0 33 _ 1 24 Tryz.underlying42 Tryz.zFl rfl (by decide) (.slice (some ⟨fb, 0, none⟩) fn fc) fn F rfl HF3.out w3.heap.size (some ⟨wd.heap.size, 0, none⟩) 1 1 [.slice A n c] rfl (reads_new1 HX3.out) (by intro u hu; rw [List.mem_singleton.1 hu]; rfl) (by have := HFN.out; omega) (by decide) (by have := HB0.out; have := HB1.out.size; have := BW3.out.size; omega) ?_
  rintro v4 w4 h4
  obtain ⟨ho4, hg4, hv4⟩ := h4.out
  obtain ⟨A4, c4, rfl, _, _⟩ := own_slice ho4
  have HO4 := Lh ho4
  have HG4 := Lh hg4
  have HV4 := Lh hv4
  have HX4 := Lh ((HB.out.below BW3.out HB.out.lt).grown hg4 (Ne.symm (own_blk_ne HF3.out (HB.out.below BW3.out HB.out.lt) (by decide))))
  have z0 : w4.cell? ⟨g, 1, none⟩ = some (.slice (some ⟨fb, 0, none⟩) fn fc) := HX4.out.cell 1
  have z1 : w4.frozen? ⟨g, 1, none⟩ = false := HX4.out.frozen 1
  clear ho4 hg4 hv4 h4
  refine hQ.out _ _ ?_ (fun hHm13 => ?_)
  · exact trivial
  clear hQ K
  try simp only [Act.put, pA9, pZ9, pS9]
  refine tT 14 rfl ?_ ⟨hHm13, fun h => absurd h (by decide)⟩ ?_ ?_
  rotate_left
  · (intro wx hx; go_simp <;> with_reducible rfl)
  try simp only [Act.put, pA9, pZ9, pS9]
  refine tT 15 rfl ?_ ⟨hHm13, fun h => absurd h (by decide)⟩ ?_ ?_
  rotate_left
  · (intro wx hx; go_simp <;> with_reducible rfl)
  try simp only [Act.put, pA9, pZ9, pS9]
  refine wpAnyT_last 16 rfl (by kernel_rfl) (by decide) (fun K hQ => ?_)
  go_simp
  refine hQ.out _ _ ?_ (fun hHm16 => ?_)
  · exact trivial
  clear hQ K
  try simp only [Act.put, pA9, pZ9, pS9]
  refine wpAnyT_done (by kernel_rfl) ?_ _
  have HO5 := Lh (own_gb HO4.out (Only.set_ w4 g 1 (.slice A4 (fn + 1) c4)).grown (.inr (own_blk_ne HO4.out HX4.out (by decide))))
  have HS4 := Lh (own_gb (own_bel HS.out BW3.out) HG4.out (own_ne (own_bel HS.out BW3.out) HF3.out (by decide)))
  have HS5 := Lh (own_gb HS4.out (Only.set_ w4 g 1 (.slice A4 (fn + 1) c4)).grown (.inr (own_blk_ne HS4.out HX4.out (by decide))))
  have HX5 := Lh (show Blk (w4.setCell ⟨g, 1, none⟩ (.slice A4 (fn + 1) c4)) g 45 (nCs A4 (fn + 1) c4 (some ⟨sb, 0, none⟩) fn sc t1 t2 t3) from HX4.out.set_ 1 _)
  have HN5 := Lh (Only.set_ w4 g 1 (.slice A4 (fn + 1) c4))
  have S5 := Lh (show w.heap.size ≤ (w4.setCell ⟨g, 1, none⟩ (.slice A4 (fn + 1) c4)).heap.size from by rw [HN5.out.size]; have := HG4.out.size; have := BW3.out.size; have := HB2.out.size; omega)
  clear hH hH12 hHm13 hHm16 z0 z1
  obtain ⟨w5, ew5⟩ : ∃ w5, w4.setCell ⟨g, 1, none⟩ (.slice A4 (fn + 1) c4) = w5 := ⟨_, rfl⟩
  rw [ew5] at HO5 HS5 HX5 HN5 S5
  have c2 : w5.cell? ⟨g, 2, none⟩ = some (.slice (some ⟨sb, 0, none⟩) fn sc) := HX5.out.cell 2
  have k1 : w5.cell? ⟨sb, 0, none⟩ = some (.int .i64 a1) := HS5.out.cells (g := sb) rfl 0 _ (mcells_first HS0.out).1
  have k2 : w5.cell? ⟨sb, 1, none⟩ = some (.int .i64 a2) := HS5.out.cells (g := sb) rfl 1 _ (mcells_first HS0.out).2
  go_upto_region 7 with (rw [ew5])
  clear ew5
  refine wp_region_late (S0 := fun _ => True) (S := fun w' => w'.cell? ⟨g, 2, none⟩ = some (.slice (some ⟨sb, 0, none⟩) fn sc) ∧ w'.cell? ⟨sb, 0, none⟩ = some (.int .i64 a1) ∧ w'.cell? ⟨sb, 1, none⟩ = some (.int .i64 a2)) 13 17 (by kernel_rfl) rfl ⟨trivial, c2, k1, k2⟩ (fun wd6 hwd hH => ?_)
  have D6 := Lh (show Below w5.heap.size w5 wd6 from by rw [hwd]; exact (Below.refl _ _).drew)
  clear hwd k1 k2 c2
  refine tS 0 rfl ?_ hH ?_ ?_
  rotate_left
  · (intro wx hx; go_simp <;> with_reducible rfl)
  try simp only [Act.put, pA9, pZ9, pS9]
  refine tS 1 rfl ?_ hH ?_ ?_
  rotate_left
  · (intro wx hx; go_simp <;> with_reducible rfl)
  try simp only [Act.put, pA9, pZ9, pS9]
  refine tS 2 rfl ?_ hH ?_ ?_
  rotate_left
  · (intro wx hx; go_simp <;> with_reducible rfl)
  try simp only [Act.put, pA9, pZ9, pS9]
  refine tS 3 rfl ?_ hH ?_ ?_
  rotate_left
  · (intro wx hx; go_simp <;> with_reducible rfl)
  try simp only [Act.put, pA9, pZ9, pS9]
  refine wpAnyT_take 4 (v := ?_) rfl (by kernel_rfl) (fun _ _ _ h => h) (Or.inl ⟨by rfl, ?_⟩) hH ?_
  rotate_left
  · (intro wx hx; obtain ⟨_, _, _⟩ := hx; go_simp <;> with_reducible rfl)
  try simp only [Act.put, pA9, pZ9, pS9]
  refine tS 5 rfl ?_ hH ?_ ?_
  rotate_left
  · (intro wx hx; go_simp <;> with_reducible rfl)
  try simp only [Act.put, pA9, pZ9, pS9]
  refine tS 6 rfl ?_ hH ?_ ?_
  rotate_left
  · (intro wx hx; go_simp <;> with_reducible rfl)
  try simp only [Act.put, pA9, pZ9, pS9]
  refine tS 7 rfl ?_ hH ?_ ?_
  rotate_left
  · (intro wx hx; go_simp <;> with_reducible rfl)
  try simp only [Act.put, pA9, pZ9, pS9]
  refine wpAnyT_take 8 (v := ?_) rfl (by kernel_rfl) (fun _ _ _ h => h) (Or.inl ⟨by rfl, ?_⟩) hH ?_
  rotate_left
  · (intro wx hx; obtain ⟨_, _, _⟩ := hx; go_simp <;> with_reducible rfl)
  try simp only [Act.put, pA9, pZ9, pS9]
  refine tS 9 rfl ?_ hH ?_ ?_
  rotate_left
  · (intro wx hx; go_simp <;> with_reducible rfl)
  try simp only [Act.put, pA9, pZ9, pS9]
  refine tS 10 rfl ?_ hH ?_ ?_
  rotate_left
  · (intro wx hx; go_simp <;> with_reducible rfl)
  try simp only [Act.put, pA9, pZ9, pS9]
  refine wpAnyT_take 11 rfl (by kernel_rfl) (fun _ _ _ h => h) (yields_load_at rfl 62 (.tmp 48) rfl (⟨sb, 0, none⟩ : Addr) [.int .i64 a1, .int .i64 a2] _ rfl (fun w' hw' j v hv => by match j, hv with | 0, hv => rw [← Option.some.inj hv]; exact hw'.2.1 | 1, hv => rw [← Option.some.inj hv]; exact hw'.2.2) Tryz.underlying62 rfl rfl) hH ?_
  try simp only [Act.put, pA9, pZ9, pS9]
  refine wpAnyT_one 12 rfl (by kernel_rfl) (fun K hQ => ?_)
  rw [if_pos (by rfl)]
  refine wp_build1g 43 62 (.tmp 49) rfl 2 (by decide) (by decide) #[.int .i64 a1, .int .i64 a2] rfl rfl Tryz.underlying43 Tryz.bSd ?_
  obtain ⟨w6, ew6⟩ : ∃ w6, wd6.alloc (.cells #[.int .i64 a1, .int .i64 a2] 62) = w6 := ⟨_, rfl⟩
  have hb6 : Below wd6.heap.size wd6 (wd6.alloc (.cells #[.int .i64 a1, .int .i64 a2] 62)) := (Below.refl _ _).alloc (Nat.le_refl _) _
  have hx6 := Blk.new wd6 62 #[.int .i64 a1, .int .i64 a2]
  rw [ew6] at hb6 hx6
  have HB6 := Lh hb6
  have HX6 := Lh hx6
  rw [ew6]
  clear hb6 hx6 ew6
  refine hQ.out _ _ ?_ (fun hH12 => ?_)
  · exact ⟨trivial, cell_later HB6.out hH.2.1, cell_later HB6.out hH.2.2.1, cell_later HB6.out hH.2.2.2⟩
  clear hQ K
  try simp only [Act.put, pA9, pZ9, pS9]
  refine wpAnyT_last 13 rfl (by kernel_rfl) (by decide) (fun K hQ => ?_)
  have BW6 := Lh (D6.out.trans (HB6.out.mono D6.out.size))
  have HS6 := Lh (own_bel HS5.out BW6.out)
  refine step_append_g rfl (.tmp 42) (.tmp 50) _ rfl b0 62 _ 2 16 Tryz.underlying43 Tryz.zSd rfl (by decide) (.slice (some ⟨sb, 0, none⟩) fn sc) fn (mcells S) rfl HS6.out w6.heap.size (some ⟨wd6.heap.size, 0, none⟩) 1 1 [.int .i64 a1, .int .i64 a2] rfl (reads_new2 HX6.out) (by intro u hu; rcases List.mem_cons.1 hu with rfl | hu; rfl; rw [List.mem_singleton.1 hu]; rfl) (by have := HFN.out; omega) (by decide) (by have := HB0.out; have := S5.out; have := BW6.out.size; omega) ?_
  rintro v7 w7 h7
  obtain ⟨ho7, hg7, hv7⟩ := h7.out
  obtain ⟨A7, c7, rfl, _, _⟩ := own_slice ho7
  have HO7 := Lh ho7
  have HG7 := Lh hg7
  have HV7 := Lh hv7
  have HX7 := Lh ((HX5.out.below BW6.out HX5.out.lt).grown hg7 (Ne.symm (own_blk_ne HS6.out (HX5.out.below BW6.out HX5.out.lt) (by decide))))
  have z0 : w7.cell? ⟨g, 2, none⟩ = some (.slice (some ⟨sb, 0, none⟩) fn sc) := HX7.out.cell 2
  have z1 : w7.frozen? ⟨g, 2, none⟩ = false := HX7.out.frozen 2
  clear ho7 hg7 hv7 h7
  refine hQ.out _ _ ?_ (fun hHn13 => ?_)
  · exact trivial
  clear hQ K
  try simp only [Act.put, pA9, pZ9, pS9]
  refine tT 14 rfl ?_ ⟨hHn13, fun h => absurd h (by decide)⟩ ?_ ?_
  rotate_left
  · (intro wx hx; go_simp <;> with_reducible rfl)
  try simp only [Act.put, pA9, pZ9, pS9]
  refine tT 15 rfl ?_ ⟨hHn13, fun h => absurd h (by decide)⟩ ?_ ?_
  rotate_left
  · (intro wx hx; go_simp <;> with_reducible rfl)
  try simp only [Act.put, pA9, pZ9, pS9]
  refine wpAnyT_last 16 rfl (by kernel_rfl) (by decide) (fun K hQ => ?_)
  go_simp
  refine hQ.out _ _ ?_ (fun hHn16 => ?_)
  · exact trivial
  clear hQ K
  try simp only [Act.put, pA9, pZ9, pS9]
  refine wpAnyT_done (by kernel_rfl) ?_ _
  have HX8 := Lh (show Blk (w7.setCell ⟨g, 2, none⟩ (.slice A7 (fn + 1) c7)) g 45 (nCs A4 (fn + 1) c4 A7 (fn + 1) c7 t1 t2 t3) from HX7.out.set_ 2 _)
  have HF7 := Lh (own_gb (own_bel HO5.out BW6.out) HG7.out (own_ne (own_bel HO5.out BW6.out) HS6.out (by decide)))
  have HN8 := Lh (Only.set_ w7 g 2 (.slice A7 (fn + 1) c7))
  have HF8 := Lh (own_gb HF7.out HN8.out.grown (.inr (own_blk_ne HF7.out HX7.out (by decide))))
  have HS8 := Lh (own_gb HO7.out HN8.out.grown (.inr (own_blk_ne HO7.out HX7.out (by decide))))
  rw [mcells_snoc] at HS8
  clear hH hH12 hHn13 hHn16 z0 z1
  have hge := HN.out.ge
  go_wp2
  go_ret
  refine ⟨rfl, A4, c4, A7, c7, t1, t2, t3, ⟨HX8.out, HF8.out, HS8.out, hge⟩, ?_, ?_, fun A1 n1 c1 xs h => (((((h.bel HB2.out).bel BW3.out).fl HG4.out HV4.out).only HN5.out).bel BW6.out |>.sd HG7.out HV7.out).only HN8.out⟩
  · have h1 : Below b0 w w3 := (HB2.out.mono HB0.out).trans (BW3.out.mono (Nat.le_trans HB0.out HB2.out.size))
    have h4 := own_grown_bel h1 (Nat.le_trans HB0.out (Nat.le_trans HB2.out.size BW3.out.size)) HF3.out HG4.out
    have h5 := h4.trans (HN5.out.below hge)
    have h6 := h5.trans (BW6.out.mono (Nat.le_trans HB0.out S5.out))
    have h7 := own_grown_bel h6 (Nat.le_trans HB0.out (Nat.le_trans S5.out BW6.out.size)) HS6.out HG7.out
    exact h7.trans (HN8.out.below hge)
  · rw [HN8.out.size]
    have := HG7.out.size; have := BW6.out.size; have := S5.out; omega
end Go.Proofs.YtijdbdenmcjmmaaGreatDoor
end
