/-
  AN OBJECT THAT IS FOUND. (printed by gen_mel5.py); WHAT MUST COME AT ANY RATE: four commands on a fresh state. Plain. (printed by gen_men2.py); WHAT MUST COME AT ANY RATE does come. (printed by gen_mel6.py); A CHUNK THAT NO OBJECT AND NO INTENT HAS. (printed by gen_mel7.py); WHERE ALL OBJECTS LIE BY THE MAP TO COME, none must move. (printed by gen_mel8.py); WHEN THE MAP CHANGES; what was given up. Plain. (printed by gen_men3.py). (joined out of MeL5, MeN2, MeL6, MeL7, MeL8, MeN3 by shake.py)
-/
import Derived.Test.YtdoneomahlfkbaaGreatMcm25
import Derived.Test.YtdoneomahlfkbaaGreatMcm24
section
namespace Go.Proofs.YtdoneomahlfkbaaGreat
open Go.RowKit OctMath StrMath PlMath
set_option linter.unusedVariables false
set_option linter.unusedSimpArgs false
theorem oneIv (xs : List Int) : OneC (xs.map iv) := fun u hu => by
  obtain ⟨x, _, rfl⟩ := List.mem_map.1 hu
  rfl
set_option maxRecDepth 100000 in
set_option maxHeartbeats 8000000 in
theorem find_any (m : MM) (key : List Nat) (x : ObjT) (w : World) (hI : Hid (MIn m w)) (hS : Hid (MSt m)) (hla : m.x.last < 18446744073709551616) (hkb : Byt key) (hf : findR bytO ObjT.key key m.x.objs = some x) :
    Calls Tryz.prog 15 #[.agg m.cs, .string (strOf key)] w fun e w' => ∃ A c, e = .returned (.tuple #[.agg (oA ⟨x, A, c⟩), .bool true]) ∧ Below w.heap.size w w' := by
  have HMY := Lh (fun W (h : Below w.heap.size w W) => may_true m W (Lh (hI.out.later h)) hS hla)
  have HLO := Lh hI.out.olen
  obtain ⟨no, eno⟩ : ∃ x, m.x.objs.length = x := ⟨_, rfl⟩
  obtain ⟨OA, eOA⟩ : ∃ x, m.OA = x := ⟨_, rfl⟩
  have hno : no ≤ 16777216 := by rw [← eno]; exact hI.out.wf.ol
  rw [eno] at HLO
  have HRO := Lh (show Reads w w.heap.size 7 OA no (m.os.flatMap omCs) from by have := hI.out.rows.objs.rd; unfold MM.objs at this; rw [eno, eOA] at this; exact this)
  obtain ⟨y, hb, hp, hy⟩ : ∃ y, bsB (fL (cmpObj key) m.os) m.os.length = true ∧ m.os[bsP (fL (cmpObj key) m.os) m.os.length]? = some y ∧ y.x = x := by
    rcases find_mm (o := bytO) (key := ObjT.key) hI.out.os hS.out.may.objs key with ⟨h1, y, h2, h3⟩ | ⟨_, h3⟩
    · rw [hf] at h3
      injection h3 with h3
      exact ⟨y, h1, h2, h3.symm⟩
    · rw [hf] at h3
      cases h3
  have HFW := Lh (fun W kb h1 h2 => findObj OA no m.oc m.os kb key W h1 HLO (by omega) h2 (Lh hI.out.okeys) hkb)
  rw [← HLO.out] at HFW
  obtain ⟨p, ep⟩ : ∃ p, bsP (fL (cmpObj key) m.os) m.os.length = p := ⟨_, rfl⟩
  rw [hb, ep] at HFW
  rw [ep] at hp
  rw [HLO.out] at HFW
  have HP := Lh hp
  have HY := Lh hy
  have hpl : p < m.os.length := (List.getElem?_eq_some_iff.1 hp).1
  have hpn : p < no := by rw [← HLO.out]; exact hpl
  have hym : y ∈ m.os := List.mem_of_getElem? hp
  have HYI := Lh (hI.out.rows.os y hym)
  have HYN := Lh (show y.x.nodes.length ≤ 255 from by rw [(hS.out.may.fitO y.x (obj_mem hI.out hym)).nodes]; exact nodesR_lenP _ _ _)
  obtain ⟨sk, esk⟩ : ∃ sk, strOf key = sk := ⟨_, rfl⟩
  have HMK := Lh (fun W => mkObj key W)
  rw [esk] at HMK
  rw [esk]
  obtain ⟨cs, ecs⟩ : ∃ cs, m.cs = cs := ⟨_, rfl⟩
  have V8 := Lh (show cs[8]? = some (.slice OA no m.oc) from by rw [← ecs, ← eOA, ← eno]; rfl)
  have HCS := Lh (show cs.size = 14 from by rw [← ecs]; rfl)
  have HCO := Lh (show cs.toList.all (·.oneCell') = true from by rw [← ecs]; rfl)
  rw [ecs] at HMY
  rw [ecs]
  clear ecs eno eOA hb ep hp hy esk hym hf
  go_enter Tryz.func15, Tryz.ntmps15
  go_upto_region 1 with (fail)
  have h1 := (Blk.new w 34 cs).alloc (.cells oZ 58)
  have h2 := Blk.new (w.alloc (.cells cs 34)) 58 oZ
  rw [show (w.alloc (.cells cs 34)).heap.size = w.heap.size + 1 from by simp] at h2
  have hb0 : Below w.heap.size w ((w.alloc (.cells cs 34)).alloc (.cells oZ 58)) := ((Below.refl _ _).alloc (Nat.le_refl _) _).alloc (by simp) _
  have eO : (.cells #[.string ⟨#[]⟩, .int .u64 0, .int .i64 0, .int .u32 0, .int .i64 0, .int .u64 0, .slice none 0 0] 58 : Obj) = .cells oZ 58 := rfl
  rw [eO]
  obtain ⟨w1, ew1⟩ : ∃ w1, (w.alloc (.cells cs 34)).alloc (.cells oZ 58) = w1 := ⟨_, rfl⟩
  rw [ew1] at h1 h2 hb0 ⊢
  have HB := Lh h1
  have HZ := Lh h2
  have HB0 := Lh hb0
  clear ew1 h1 h2 hb0 eO
  obtain ⟨b0, e0⟩ : ∃ b0, w.heap.size = b0 := ⟨_, rfl⟩
  have E0 := Lh e0
  rw [e0] at HB HZ ⊢
  clear e0
  go_upto_region 2 with (first
    | (refine wpl_load_blk rfl 34 (.tmp 2) rfl b0 34 cs _ rfl HB.out Tryz.underlying34 rfl (by rw [HCS.out]; exact Tryz.szSt) ?_)
    | (go_at_call 17; refine (HMY.out w1 HB0.out).mono ?_; rintro e w2 ⟨rfl, hb2⟩; have B2 := Lh hb2; clear hb2))
  refine wp_region_late (S0 := fun w' => w'.cell? ⟨b0, 8, none⟩ = some (.slice OA no m.oc)) (S := fun _ => True) 9 10 (by kernel_rfl) rfl ⟨((HB.out.below B2.out HB.out.lt).cell 8).trans V8.out, trivial⟩ (fun wd hwd hH => ?_)
  have DW := Lh (show Below w1.heap.size w1 wd from by rw [hwd]; exact B2.out.drew)
  clear hwd
  refine wpAnyT_stay 0 (v := ?_) rfl (by kernel_rfl) (fun _ _ _ h => h) (Or.inl ⟨by rfl, ?_⟩) ⟨hH.1, fun _ => hH.2⟩ ?_
  rotate_left
  · (intro wx hx; go_simp <;> with_reducible rfl)
  try simp only [Act.put, pA9, pZ9, pS9]
  refine wpAnyT_stay 1 (v := ?_) rfl (by kernel_rfl) (fun _ _ _ h => h) (Or.inl ⟨by rfl, ?_⟩) ⟨hH.1, fun _ => hH.2⟩ ?_
  rotate_left
  · (intro wx hx; go_simp <;> with_reducible rfl)
  try simp only [Act.put, pA9, pZ9, pS9]
  refine wpAnyT_stay 2 (v := ?_) rfl (by kernel_rfl) (fun _ _ _ h => h) (Or.inl ⟨by rfl, ?_⟩) ⟨hH.1, fun _ => hH.2⟩ ?_
  rotate_left
  · (intro wx hx; go_simp <;> with_reducible rfl)
  try simp only [Act.put, pA9, pZ9, pS9]
  refine wpAnyT_one 3 rfl (by kernel_rfl) (fun K hQ => ?_)
  go_simp
  (go_at_call 33; refine (HMK.out _).mono ?_; rintro e w8 ⟨rfl, hc8, hb8⟩)
  have HC8 := Lh hc8
  have HB8 := Lh (DW.out.trans (hb8.mono DW.out.size))
  clear hc8 hb8
  refine hQ.out _ _ ?_ (fun hH3 => ?_)
  · exact ⟨((HB.out.below HB8.out HB.out.lt).cell 8).trans V8.out, trivial⟩
  clear hQ K
  try simp only [Act.put, pA9, pZ9, pS9]
  refine wpAnyT_one 4 rfl (by kernel_rfl) (fun K hQ => ?_)
  go_simp
  (go_at_call 32; refine (HFW.out _ wd.heap.size (Lh (HRO.out.later (HB0.out.trans (HB8.out.mono HB0.out.size)))) HC8).mono ?_; rintro e w9 ⟨rfl, hb9⟩)
  have HB9 := Lh (HB8.out.trans (hb9.mono HB8.out.size))
  clear hb9
  refine hQ.out _ _ ?_ (fun hH4 => ?_)
  · exact ⟨((HB.out.below HB9.out HB.out.lt).cell 8).trans V8.out, trivial⟩
  clear hQ K
  try simp only [Act.put, pA9, pZ9, pS9]
  refine wpAnyT_stay 5 (v := ?_) rfl (by kernel_rfl) (fun _ _ _ h => h) (Or.inl ⟨by rfl, ?_⟩) ⟨hH4.1, fun _ => hH4.2⟩ ?_
  rotate_left
  · (intro wx hx; go_simp <;> with_reducible rfl)
  try simp only [Act.put, pA9, pZ9, pS9]
  refine wpAnyT_stay 6 (v := ?_) rfl (by kernel_rfl) (fun _ _ _ h => h) (Or.inl ⟨by rfl, ?_⟩) ⟨hH4.1, fun _ => hH4.2⟩ ?_
  rotate_left
  · (intro wx hx; go_simp <;> with_reducible rfl)
  try simp only [Act.put, pA9, pZ9, pS9]
  refine wpAnyT_stay 7 (v := ?_) rfl (by kernel_rfl) (fun _ _ _ h => h) (Or.inl ⟨by rfl, ?_⟩) ⟨hH4.1, fun _ => hH4.2⟩ ?_
  rotate_left
  · (intro wx hx; go_simp <;> with_reducible rfl)
  try simp only [Act.put, pA9, pZ9, pS9]
  refine wpAnyT_stay 8 (v := ?_) rfl (by kernel_rfl) (fun _ _ _ h => h) (Or.inl ⟨by rfl, ?_⟩) ⟨hH4.1, fun _ => hH4.2⟩ ?_
  rotate_left
  · (intro wx hx; go_simp <;> with_reducible rfl)
  try simp only [Act.put, pA9, pZ9, pS9]
  refine wpAnyT_last 9 rfl (by kernel_rfl) (by decide) (fun K hQ => ?_)
  go_simp
  refine hQ.out _ _ ?_ (fun hH9 => ?_)
  · exact hH4.1
  clear hQ K
  try simp only [Act.put, pA9, pZ9, pS9]
  refine wpAnyT_done (by kernel_rfl) ?_ _
  clear hH hH3 hH4 hH9
  have HB9' := Lh (HB0.out.trans (HB9.out.mono HB0.out.size))
  obtain ⟨ad, rfl, hadb, hcell⟩ := elem_cells (cells := omCs) (K := 7) (fun _ => rfl) (HRO.out.later HB9'.out) hpl (by omega)
  rw [(List.getElem?_eq_some_iff.1 HP.out).2] at hcell
  have HC1 := Lh hcell
  have k8 := ((HB.out.below HB9.out HB.out.lt).cell 8).trans V8.out
  have d0 : decide ((p : Int) < 0) = false := decide_eq_false (by omega)
  obtain ⟨os, eos⟩ : ∃ os, oA y = os := ⟨_, rfl⟩
  have EOS := Lh eos
  have HOZ := Lh (show os.size = 7 from by rw [← eos]; rfl)
  have HOO := Lh (show os.toList.all (·.oneCell') = true from by rw [← eos]; rfl)
  obtain ⟨nl, enl⟩ : ∃ nl, y.x.nodes.length = nl := ⟨_, rfl⟩
  have ENL := Lh enl
  have U6 := Lh (show os[6]? = some (.slice y.A nl y.c) from by rw [← eos, ← enl]; rfl)
  have HC1 : Hid (∀ j v, os.toList[j]? = some v → w9.cell? ((ad.add (p * 7)).add j) = some v) := by rw [← eos]; exact HC1
  clear hpl hcell hadb eos enl
  go_upto_region 5 with (first
    | (refine wpl_load_at rfl 58 (.tmp 23) rfl (ad.add (p * 7)) os.toList _ rfl HC1.out Tryz.underlying58 rfl (by rw [Array.length_toList, HOZ.out]; exact Tryz.szObj) ?_)
    | (refine wpl_store_blk rfl 58 (.tmp 8) (.tmp 24) rfl w9.heap.size 58 oZ os rfl rfl (Blk.new w9 _ _) (by rw [HOZ.out]; rfl) (by rw [HOZ.out]; exact Tryz.szObj) HOO.out ?_; intro wa hBa hOa))
  have HTa := hBa
  have Ba := Lh (HB9.out.trans ((((Below.refl _ _).alloc (Nat.le_refl _) _).trans (hOa.out.below (Nat.le_refl _)) : Below w9.heap.size w9 wa).mono HB9.out.size))
  obtain ⟨b8, e8⟩ : ∃ b8, w9.heap.size = b8 := ⟨_, rfl⟩
  have H8 := Lh (show b0 + 1 < b8 ∧ w1.heap.size ≤ b8 from by rw [← e8]; exact ⟨(HZ.out.below HB9.out HZ.out.lt).lt, HB9.out.size⟩)
  rw [e8] at HTa ⊢
  clear e8 hBa hOa k8 d0
  have y6 := (HTa.out.cell 6).trans U6.out
  have HCL := Lh (cloneI64 y.A nl y.c (y.x.nodes.map iv) wa (Lh (by have h := HYI.out.rd; unfold oRow at h; rw [← ENL.out]; exact h.later (HB0.out.trans (Ba.out.mono HB0.out.size)))) (Lh (oneIv _)) (by have := HYN.out; have := ENL.out; omega))
  go_upto_region 6 with (first
    | (go_at_call 31; refine HCL.out.mono ?_; rintro e wb ⟨v, rfl, ho, hbb⟩; obtain ⟨A9, c9, rfl, _, _⟩ := own_slice ho; have HTb := Lh (HTa.out.below hbb HTa.out.lt); have Bb := Lh (Ba.out.trans (hbb.mono Ba.out.size)); have z6 := HTb.out.frozen 6; have y6 := (HTb.out.cell 6).trans U6.out; clear hbb ho))
  have hTc := HTb.out.set_ 6 (.slice A9 nl c9)
  have hOc := Only.set_ wb b8 6 (.slice A9 nl c9)
  obtain ⟨wc, ewc⟩ : ∃ wc, wb.setCell ⟨b8, 6, none⟩ (.slice A9 nl c9) = wc := ⟨_, rfl⟩
  rw [ewc] at hTc hOc ⊢
  have HTc := Lh hTc
  have Bc := Lh (Bb.out.trans (hOc.below H8.out.2))
  have HZc := Lh (HZ.out.below Bc.out HZ.out.lt)
  clear ewc hTc hOc z6 y6
  obtain ⟨os', eos'⟩ : ∃ os', os.setIfInBounds 6 (.slice A9 nl c9) = os' := ⟨_, rfl⟩
  have EO' := Lh eos'
  have HOZ' := Lh (show os'.size = 7 from by rw [← eos', Array.size_setIfInBounds]; exact HOZ.out)
  have hfin : os' = oA ⟨x, A9, c9⟩ := by rw [← eos', ← EOS.out, ← ENL.out, ← HY.out]; rfl
  have HFI := Lh hfin
  have HOO' := Lh (show os'.toList.all (·.oneCell') = true from by rw [hfin]; rfl)
  rw [eos'] at HTc
  clear eos' hfin
  go_wp2_with (first
    | (refine wpl_load_blk rfl 58 (.tmp 8) rfl b8 58 os' _ rfl HTc.out Tryz.underlying58 rfl (by rw [HOZ'.out]; exact Tryz.szObj) ?_)
    | (refine wpl_store_blk rfl 58 (.tmp 4) (.tmp 29) rfl (b0 + 1) 58 oZ os' rfl rfl HZc.out (by rw [HOZ'.out]; rfl) (by rw [HOZ'.out]; exact Tryz.szObj) HOO'.out ?_; intro we hBe hOe))
  refine bodyPost_ret (res_ct Tryz.results15 rfl rfl (load_blk hBe.out Tryz.underlying58 rfl (by rw [HOZ'.out]; exact Tryz.szObj))) rfl ⟨A9, c9, by rw [HFI.out]; rfl, ?_⟩
  exact (HB0.out.trans (Bc.out.mono HB0.out.size)).trans (hOe.out.below (by have := E0.out; omega))
end Go.Proofs.YtdoneomahlfkbaaGreat
end
section
namespace Go.Proofs.YtdoneomahlfkbaaGreat
open Go.RowKit OctMath StrMath PlMath
set_option linter.unusedVariables false
set_option linter.unusedSimpArgs false
def ms2 : List (Int × Int) := [(1, 1), (2, 1)]
def hc1 : CmdT := ⟨1, 1, 1, [97], 0, 0, 0, 0, 0, 0, false, ⟨0, 0, 0⟩, 0, []⟩
def hc2 : CmdT := ⟨2, 0, 0, [], 0, 0, 1, 0, 0, 0, false, ⟨0, 0, 0⟩, 0, []⟩
def hc4 : CmdT := ⟨3, 0, 0, [], 0, 0, 1, 0, 0, 0, false, ⟨0, 0, 0⟩, 0, []⟩
def hm0 : MetT := newM 1 2 4 ms2
def hm1 : MetT := (applyM plF hm0 1 hc1).1
def hm2 : MetT := (applyM plF hm1 2 hc2).1
theorem h0_run : RunS hm0 0 := new_run (by decide) (by decide) (by decide) (by decide)
theorem h1_run : RunS hm1 1 := h0_run.apply (by decide) hc1
theorem h2_run : RunS hm2 2 := h1_run.apply (by decide) hc2
section
variable (P : PlF)
def hob : ObjT := ⟨[97], 1, 0, 0, P.grp [97] 4, 1, P.nds (1, ms2) (P.grp [97] 4) 2⟩
def hs1 : MetT := { hm0 with last := 1, ints := [⟨hob P, 1, 1⟩], sess := [⟨1, 1, true, 1, 0⟩] }
def hs2 : MetT := { hm0 with last := 2, objs := [hob P], sess := [⟨1, 1, false, 1, 1⟩] }
theorem h_1 : applyM P hm0 1 hc1 = (hs1 P, ⟨0, 1, P.nds (1, ms2) (P.grp [97] 4) 2, 1⟩) := rfl
theorem h_2 : applyM P (hs1 P) 2 hc2 = (hs2 P, ⟨1, 1, [], 0⟩) := rfl
theorem h_3 : (applyM P (hs2 P) 3 hc1).2.code = 1 := rfl
theorem h_4 : (applyM P (hs2 P) 3 hc4).2.code = 3 := rfl
theorem h_f : findR bytO ObjT.key [97] (hs2 P).objs = some (hob P) := rfl
end
theorem hm1_eq : hm1 = hs1 plF := congrArg Prod.fst (h_1 plF)
theorem hm2_eq : hm2 = hs2 plF := by
  unfold hm2
  rw [hm1_eq]
  exact congrArg Prod.fst (h_2 plF)
theorem h_len : (plF.nds (1, ms2) (plF.grp [97] 4) 2).length = 2 := by
  have hg := plF.grpR [97] 4 (by omega) (by omega)
  have h := plF.len (n := 2) (m := (1, ms2)) (g := plF.grp [97] 4) (by decide) (by omega) (by omega) hg.1 (by omega)
  omega
end Go.Proofs.YtdoneomahlfkbaaGreat
end
section
namespace Go.Proofs.YtdoneomahlfkbaaGreat
open Go.RowKit OctMath StrMath PlMath
set_option linter.unusedVariables false
set_option linter.unusedSimpArgs false
theorem eL1 : cmdCs hc1 none 0 = #[.int .i64 1, .int .u64 1, .int .u64 1, .string ⟨#[97]⟩, .int .i64 0, .int .u32 0, .int .u64 0, .int .u64 0, .int .i64 0, .int .i64 0, .bool false, .int .u64 0, .int .i64 0, .int .u64 0, .int .u64 0, .slice none 0 0] := rfl
theorem eL2 : cmdCs hc2 none 0 = #[.int .i64 2, .int .u64 0, .int .u64 0, .string ⟨#[]⟩, .int .i64 0, .int .u32 0, .int .u64 1, .int .u64 0, .int .i64 0, .int .i64 0, .bool false, .int .u64 0, .int .i64 0, .int .u64 0, .int .u64 0, .slice none 0 0] := rfl
theorem eL4 : cmdCs hc4 none 0 = #[.int .i64 3, .int .u64 0, .int .u64 0, .string ⟨#[]⟩, .int .i64 0, .int .u32 0, .int .u64 1, .int .u64 0, .int .i64 0, .int .i64 0, .bool false, .int .u64 0, .int .i64 0, .int .u64 0, .int .u64 0, .slice none 0 0] := rfl
theorem ap_bare {w : World} {m : MM} {i : Nat} {G : List Nat} (hI : MIn m w) (hR : RunS m.x i) (hi : i ≤ 1000) (hG : ∀ q ∈ G, q < w.heap.size ∧ m.All (·.Off q)) (c : CmdT) (hm : c.mem = []) (hk : Byt c.key) (hl : c.key.length ≤ 64) :
    Calls Tryz.prog 9 #[.agg m.cs, .int .u64 ((i + 1 : Nat) : Int), .agg (cmdCs c none 0)] w (RetApp (applyM plF m.x (i + 1) c) G w) :=
  apply_any m (i + 1) c none 0 w (Lh hI) (Lh (mst_of hR.may)) (Lh (hR.siz (by omega))) (by have := hR.last; omega) (by omega) (Lh (by rw [hm]; exact ⟨by refine ⟨rfl, fun h => absurd h (Nat.lt_irrefl 0)⟩, Nat.le_refl _, by show (0 : Nat) ≤ maxLen; unfold maxLen; omega⟩)) (by rw [hm]; intro x hx; cases hx) hk (by unfold maxLen; omega) G (Lh fun q hq => ⟨(hG q hq).1, (hG q hq).2, fun h => absurd h (by rw [hm]; exact Nat.lt_irrefl 0)⟩)
theorem byt_a : Byt [97] := fun y hy => by rw [List.mem_singleton.1 hy]; omega
theorem byt_n : Byt [] := fun y hy => by cases hy
set_option maxRecDepth 100000 in
set_option maxHeartbeats 8000000 in
theorem heads_any (w : World) : Calls Tryz.prog 7 #[] w fun e w' => e = .returned (.bool true) ∧ Below w.heap.size w w' := by
  go_enter Tryz.func7, Tryz.ntmps7
  go_wp2_with fail
  refine (two_any w).mono ?_
  rintro e v1 ⟨A0, c0, rfl, hrow, hb⟩
  have BV1 := Lh hb
  have HR0 := Lh hrow
  have hnew := new_any 1 2 4 ms2 A0 c0 v1 (Lh hrow) (Lh h0_run.may)
  have hin := newMM_in (k := 1) (n := 2) (gs := 4) (ms := ms2) hrow
  obtain ⟨m0, em0⟩ : ∃ m0, newMM 1 2 4 ms2 A0 c0 = m0 := ⟨_, rfl⟩
  have EM0 := Lh (show m0.x = hm0 from by rw [← em0]; rfl)
  rw [em0] at hnew hin
  have HI0 := Lh hin
  clear em0 hin hrow hb
  obtain ⟨cs0, ec⟩ : ∃ cs, m0.cs = cs := ⟨_, rfl⟩
  have EC0 := Lh ec
  have Z0 := Lh (show cs0.size = 14 from by rw [← ec]; rfl)
  have O0 := Lh (show cs0.toList.all (·.oneCell') = true from by rw [← ec]; rfl)
  rw [ec] at hnew
  clear ec
  have HNEW := Lh hnew
  clear hnew
  go_wp2_with fail
  refine HNEW.out.mono ?_
  rintro e v2 ⟨rfl, hb⟩
  have BV2 := Lh (BV1.out.trans (hb.mono BV1.out.size))
  have HI0 := Lh (HI0.out.later hb)
  clear hb HNEW
  go_upto_region 2 with (refine wpl_store_blk rfl 34 (.tmp 1) (.tmp 18) rfl v2.heap.size 34 mZ cs0 rfl rfl (Blk.new v2 _ _) (by rw [Z0.out]; rfl) (by rw [Z0.out]; exact Tryz.szSt) O0.out ?_; intro u0 hB hO)
  have hb2 : Below v2.heap.size v2 u0 := ((Below.refl _ _).alloc (Nat.le_refl _) _).trans (hO.out.below (Nat.le_refl _))
  have HF0 := Lh (show m0.All (·.Off v2.heap.size) from HI0.out.rows.imp fun r hr => hr.off (Nat.le_refl _))
  have HI0 := Lh (HI0.out.later hb2)
  have BU0 := Lh (BV2.out.trans (hb2.mono BV2.out.size))
  have hge := BV2.out.size
  obtain ⟨b1, e1⟩ : ∃ b1, v2.heap.size = b1 := ⟨_, rfl⟩
  rw [e1] at hB HF0 hge ⊢
  have HM0 := hB
  have HGE := Lh hge
  clear hB hO hb2 e1 hge
  have hap := ap_bare HI0.out (by rw [EM0.out]; exact h0_run) (by decide) (G := [b1]) (fun q hq => by rw [List.mem_singleton.1 hq]; exact ⟨HM0.out.lt, HF0.out⟩) hc1 rfl byt_a (by decide)
  rw [EM0.out, eL1, EC0.out, h_1] at hap
  have HAP := Lh (show Calls Tryz.prog 9 #[.agg cs0, .int .u64 1, .agg _] u0 (RetApp _ [b1] u0) from hap)
  clear hap
  go_wp2_with (refine wpl_load_blk rfl 34 (.tmp 1) rfl b1 34 cs0 _ rfl HM0.out Tryz.underlying34 rfl (by rw [Z0.out]; exact Tryz.szSt) ?_)
  refine HAP.out.mono ?_
  rintro e x1 ⟨m1, A1, c1, rfl, hin, hx, hb, hoff⟩
  have EM1 := Lh hx
  have HF1 := Lh (hoff b1 (by simp))
  have HIx := Lh hin
  have HMx := Lh (HM0.out.below hb HM0.out.lt)
  have BUx := Lh (BU0.out.trans (hb.mono BU0.out.size))
  have hbx := Lh hb
  clear hin hoff hb hx HAP
  obtain ⟨cs1, ec⟩ : ∃ cs, m1.cs = cs := ⟨_, rfl⟩
  have EC1 := Lh ec
  have Z1 := Lh (show cs1.size = 14 from by rw [← ec]; rfl)
  have O1 := Lh (show cs1.toList.all (·.oneCell') = true from by rw [← ec]; rfl)
  rw [ec]
  clear ec
  obtain ⟨rr1, er⟩ : ∃ rr, rcs (⟨0, 1, plF.nds (1, ms2) (plF.grp [97] 4) 2, 1⟩ : ResT) A1 c1 = rr := ⟨_, rfl⟩
  have YR1 := Lh (show rr1.size = 4 from by rw [← er]; rfl)
  have OR1 := Lh (show rr1.toList.all (·.oneCell') = true from by rw [← er]; rfl)
  have Q1 := Lh (show rr1[1]? = some (.int .u64 1) from by rw [← er]; rfl)
  have Q2 := Lh (show rr1[2]? = some (.slice A1 2 c1) from by rw [← er]; show some (Value.slice A1 (plF.nds (1, ms2) (plF.grp [97] 4) 2).length c1) = _; rw [h_len])
  rw [er]
  clear er
  have HLT := Lh HMx.out.lt
  go_upto_region 3 with (first
    | (refine wpl_store_blk rfl 34 (.tmp 1) (.tmp 24) rfl b1 34 cs0 cs1 rfl rfl (HMx.out.alloc _) (by rw [Z0.out, Z1.out]) (by rw [Z1.out]; exact Tryz.szSt) O1.out ?_; intro x2 hB2 hO2; have HT := Lh (hO2.out.blk (Blk.new x1 39 rZ) (by have := HLT.out; omega)))
    | (refine wpl_store_blk rfl 39 (.tmp 3) (.tmp 25) rfl x1.heap.size 39 rZ rr1 rfl rfl HT.out (by rw [YR1.out]; rfl) (by rw [YR1.out]; exact Tryz.szR) OR1.out ?_; intro u1 hB3 hO3))
  have hba : Below x1.heap.size x1 (x1.alloc (.cells rZ 39)) := (Below.refl _ _).alloc (Nat.le_refl _) _
  have HF9 : m1.All (·.Off x1.heap.size) := HIx.out.rows.imp fun r hr => hr.off (Nat.le_refl _)
  have HI1 := Lh (min_store (min_store (HIx.out.later hba) hO2.out HF1.out) hO3.out HF9)
  have HM1 := Lh (hO3.out.blk hB2.out (by have := HLT.out; omega))
  have BU1 := Lh ((((BUx.out.trans (hba.mono BUx.out.size)).trans (hO2.out.below HGE.out))).trans (hO3.out.below BUx.out.size))
  have HT1 := hB3
  have HNE1 := Lh (show b1 < x1.heap.size from HLT.out)
  obtain ⟨r1, er⟩ : ∃ r, x1.heap.size = r := ⟨_, rfl⟩
  rw [er] at HT1 HNE1 ⊢
  clear er hB2 hO2 hB3 hO3 hba HF9 HIx HMx BUx HT HLT hbx HM0 HI0 BU0
  have hap := ap_bare HI1.out (by rw [EM1.out]; exact (by rw [← hm1_eq]; exact h1_run)) (by decide) (G := [b1]) (fun q hq => by rw [List.mem_singleton.1 hq]; exact ⟨HM1.out.lt, HF1.out⟩) hc2 rfl byt_n (by decide)
  rw [EM1.out, eL2, EC1.out, h_2] at hap
  have HAP := Lh (show Calls Tryz.prog 9 #[.agg cs1, .int .u64 2, .agg _] u1 (RetApp _ [b1] u1) from hap)
  clear hap
  go_wp2_with (refine wpl_load_blk rfl 34 (.tmp 1) rfl b1 34 cs1 _ rfl HM1.out Tryz.underlying34 rfl (by rw [Z1.out]; exact Tryz.szSt) ?_)
  refine HAP.out.mono ?_
  rintro e x1 ⟨m2, A2, c2, rfl, hin, hx, hb, hoff⟩
  have EM2 := Lh hx
  have HF2 := Lh (hoff b1 (by simp))
  have HIx := Lh hin
  have HMx := Lh (HM1.out.below hb HM1.out.lt)
  have BUx := Lh (BU1.out.trans (hb.mono BU1.out.size))
  have hbx := Lh hb
  clear hin hoff hb hx HAP
  have HT1 := Lh (HT1.out.below hbx.out HT1.out.lt)
  obtain ⟨cs2, ec⟩ : ∃ cs, m2.cs = cs := ⟨_, rfl⟩
  have EC2 := Lh ec
  have Z2 := Lh (show cs2.size = 14 from by rw [← ec]; rfl)
  have O2 := Lh (show cs2.toList.all (·.oneCell') = true from by rw [← ec]; rfl)
  rw [ec]
  clear ec
  obtain ⟨rr2, er⟩ : ∃ rr, rcs (⟨1, 1, [], 0⟩ : ResT) A2 c2 = rr := ⟨_, rfl⟩
  have YR2 := Lh (show rr2.size = 4 from by rw [← er]; rfl)
  have OR2 := Lh (show rr2.toList.all (·.oneCell') = true from by rw [← er]; rfl)
  have Q3 := Lh (show rr2[0]? = some (.int .i64 1) from by rw [← er]; rfl)
  rw [er]
  clear er
  have HLT := Lh HMx.out.lt
  go_upto_region 4 with (first
    | (refine wpl_store_blk rfl 34 (.tmp 1) (.tmp 31) rfl b1 34 cs1 cs2 rfl rfl (HMx.out.alloc _) (by rw [Z1.out, Z2.out]) (by rw [Z2.out]; exact Tryz.szSt) O2.out ?_; intro x2 hB2 hO2; have HT := Lh (hO2.out.blk (Blk.new x1 39 rZ) (by have := HLT.out; omega)))
    | (refine wpl_store_blk rfl 39 (.tmp 5) (.tmp 32) rfl x1.heap.size 39 rZ rr2 rfl rfl HT.out (by rw [YR2.out]; rfl) (by rw [YR2.out]; exact Tryz.szR) OR2.out ?_; intro u2 hB3 hO3))
  have hba : Below x1.heap.size x1 (x1.alloc (.cells rZ 39)) := (Below.refl _ _).alloc (Nat.le_refl _) _
  have HF9 : m2.All (·.Off x1.heap.size) := HIx.out.rows.imp fun r hr => hr.off (Nat.le_refl _)
  have HI2 := Lh (min_store (min_store (HIx.out.later hba) hO2.out HF2.out) hO3.out HF9)
  have HM2 := Lh (hO3.out.blk hB2.out (by have := HLT.out; omega))
  have BU2 := Lh ((((BUx.out.trans (hba.mono BUx.out.size)).trans (hO2.out.below HGE.out))).trans (hO3.out.below BUx.out.size))
  have HT1 := Lh (hO3.out.blk (hO2.out.blk (HT1.out.below hba HT1.out.lt) (by have := HNE1.out; omega)) (by have := HT1.out.lt; omega))
  have HT2 := hB3
  have HNE2 := Lh (show b1 < x1.heap.size from HLT.out)
  obtain ⟨r2, er⟩ : ∃ r, x1.heap.size = r := ⟨_, rfl⟩
  rw [er] at HT2 HNE2 ⊢
  clear er hB2 hO2 hB3 hO3 hba HF9 HIx HMx BUx HT HLT hbx HM1 HI1 BU1
  have HFN := Lh (find_any m2 [97] (hob plF) u2 HI2 (Lh (mst_of (by rw [EM2.out, ← hm2_eq]; exact h2_run.may))) (by rw [EM2.out]; decide) byt_a (by rw [EM2.out]; exact h_f plF))
  rw [EC2.out] at HFN
  go_wp2_with (refine wpl_load_blk rfl 34 (.tmp 1) rfl b1 34 cs2 _ rfl HM2.out Tryz.underlying34 rfl (by rw [Z2.out]; exact Tryz.szSt) ?_)
  refine HFN.out.mono ?_
  rintro e x1 ⟨A9, c9, rfl, hb⟩
  obtain ⟨os, eos⟩ : ∃ os, oA ⟨hob plF, A9, c9⟩ = os := ⟨_, rfl⟩
  have ZS := Lh (show os.size = 7 from by rw [← eos]; rfl)
  have OS := Lh (show os.toList.all (·.oneCell') = true from by rw [← eos]; rfl)
  have Q4 := Lh (show os[1]? = some (.int .u64 1) from by rw [← eos]; rfl)
  rw [eos]
  clear eos HFN
  have HB1 := Lh hb
  clear hb
  go_upto_region 5 with (refine wpl_store_blk rfl 58 (.tmp 7) (.tmp 37) rfl x1.heap.size 58 oZ os rfl rfl (Blk.new x1 _ _) (by rw [ZS.out]; rfl) (by rw [ZS.out]; exact Tryz.szObj) OS.out ?_; intro u3 hB3 hO3)
  have h3 : Below u2.heap.size u2 u3 := HB1.out.trans ((((Below.refl _ _).alloc (Nat.le_refl _) _).trans (hO3.out.below (Nat.le_refl _)) : Below x1.heap.size x1 u3).mono HB1.out.size)
  have HT3 := hB3
  have HT1 := Lh (HT1.out.below h3 HT1.out.lt)
  have HT2 := Lh (HT2.out.below h3 HT2.out.lt)
  have HM3 := Lh (HM2.out.below h3 HM2.out.lt)
  have HI3 := Lh (HI2.out.later h3)
  have BU3 := Lh (BU2.out.trans (h3.mono BU2.out.size))
  obtain ⟨r3, er⟩ : ∃ r, x1.heap.size = r := ⟨_, rfl⟩
  rw [er] at HT3 ⊢
  clear er hB3 hO3 h3 HB1 HM2 HI2 BU2
  have hap := ap_bare HI3.out (by rw [EM2.out, ← hm2_eq]; exact h2_run) (by decide) (G := []) (fun q hq => by cases hq) hc1 rfl byt_a (by decide)
  rw [EM2.out, eL1, EC2.out] at hap
  have HAP := Lh (show Calls Tryz.prog 9 #[.agg cs2, .int .u64 3, .agg _] u3 (RetApp (applyM plF (hs2 plF) 3 hc1) [] u3) from hap)
  clear hap
  go_wp2_with (refine wpl_load_blk rfl 34 (.tmp 1) rfl b1 34 cs2 _ rfl HM3.out Tryz.underlying34 rfl (by rw [Z2.out]; exact Tryz.szSt) ?_)
  refine HAP.out.mono ?_
  rintro e x1 ⟨mq, Aq, cq, rfl, hin, hx, hb, hoff⟩
  have HBx := Lh hb
  clear hin hoff hb hx HAP
  obtain ⟨cq3, ec⟩ : ∃ cs, mq.cs = cs := ⟨_, rfl⟩
  have ECq3 := Lh ec
  have Zq3 := Lh (show cq3.size = 14 from by rw [← ec]; rfl)
  have Oq3 := Lh (show cq3.toList.all (·.oneCell') = true from by rw [← ec]; rfl)
  rw [ec]
  clear ec
  obtain ⟨rq3, er⟩ : ∃ rr, rcs (applyM plF (hs2 plF) 3 hc1).2 Aq cq = rr := ⟨_, rfl⟩
  have YRq3 := Lh (show rq3.size = 4 from by rw [← er]; rfl)
  have ORq3 := Lh (show rq3.toList.all (·.oneCell') = true from by rw [← er]; rfl)
  have Q5 := Lh (show rq3[0]? = some (.int .i64 1) from by rw [← er]; show some (Value.int .i64 (applyM plF (hs2 plF) 3 hc1).2.code) = _; rw [h_3])
  rw [er]
  clear er
  go_upto_region 6 with (first
    | (refine wpl_store_blk rfl 34 (.tmp 9) (.tmp 43) rfl x1.heap.size 34 mZ cq3 rfl rfl ((Blk.new x1 34 mZ).alloc _) (by rw [Zq3.out]; rfl) (by rw [Zq3.out]; exact Tryz.szSt) Oq3.out ?_; intro x2 hB2 hO2; have HT := Lh (hO2.out.blk (show Blk ((x1.alloc (.cells mZ 34)).alloc (.cells rZ 39)) (x1.heap.size + 1) 39 rZ from by have h := Blk.new (x1.alloc (.cells mZ 34)) 39 rZ; rw [show (x1.alloc (.cells mZ 34)).heap.size = x1.heap.size + 1 from by simp] at h; exact h) (by omega)))
    | (refine wpl_store_blk rfl 39 (.tmp 10) (.tmp 44) rfl (x1.heap.size + 1) 39 rZ rq3 rfl rfl HT.out (by rw [YRq3.out]; rfl) (by rw [YRq3.out]; exact Tryz.szR) ORq3.out ?_; intro u4 hB3 hO3))
  have h3 : Below u3.heap.size u3 u4 := HBx.out.trans ((((((Below.refl _ _).alloc (Nat.le_refl _) _).alloc (by simp) _).trans (hO2.out.below (Nat.le_refl _))).trans (hO3.out.below (by omega)) : Below x1.heap.size x1 u4).mono HBx.out.size)
  have HT4 := hB3
  have BU4 := Lh (BU3.out.trans (h3.mono BU3.out.size))
  have HT1 := Lh (HT1.out.below h3 HT1.out.lt)
  have HT2 := Lh (HT2.out.below h3 HT2.out.lt)
  have HT3 := Lh (HT3.out.below h3 HT3.out.lt)
  have HM4 := Lh (HM3.out.below h3 HM3.out.lt)
  have HI4 := Lh (HI3.out.later h3)
  obtain ⟨r4, er⟩ : ∃ r, x1.heap.size + 1 = r := ⟨_, rfl⟩
  rw [er] at HT4 ⊢
  clear er hB2 hO2 hB3 hO3 h3 HBx HT HM3 HI3 BU3
  have hap := ap_bare HI4.out (by rw [EM2.out, ← hm2_eq]; exact h2_run) (by decide) (G := []) (fun q hq => by cases hq) hc4 rfl byt_n (by decide)
  rw [EM2.out, eL4, EC2.out] at hap
  have HAP := Lh (show Calls Tryz.prog 9 #[.agg cs2, .int .u64 3, .agg _] u4 (RetApp (applyM plF (hs2 plF) 3 hc4) [] u4) from hap)
  clear hap
  go_wp2_with (refine wpl_load_blk rfl 34 (.tmp 1) rfl b1 34 cs2 _ rfl HM4.out Tryz.underlying34 rfl (by rw [Z2.out]; exact Tryz.szSt) ?_)
  refine HAP.out.mono ?_
  rintro e x1 ⟨mq, Aq, cq, rfl, hin, hx, hb, hoff⟩
  have HBx := Lh hb
  clear hin hoff hb hx HAP
  obtain ⟨cq4, ec⟩ : ∃ cs, mq.cs = cs := ⟨_, rfl⟩
  have ECq4 := Lh ec
  have Zq4 := Lh (show cq4.size = 14 from by rw [← ec]; rfl)
  have Oq4 := Lh (show cq4.toList.all (·.oneCell') = true from by rw [← ec]; rfl)
  rw [ec]
  clear ec
  obtain ⟨rq4, er⟩ : ∃ rr, rcs (applyM plF (hs2 plF) 3 hc4).2 Aq cq = rr := ⟨_, rfl⟩
  have YRq4 := Lh (show rq4.size = 4 from by rw [← er]; rfl)
  have ORq4 := Lh (show rq4.toList.all (·.oneCell') = true from by rw [← er]; rfl)
  have Q6 := Lh (show rq4[0]? = some (.int .i64 3) from by rw [← er]; show some (Value.int .i64 (applyM plF (hs2 plF) 3 hc4).2.code) = _; rw [h_4])
  rw [er]
  clear er
  go_upto_region 7 with (first
    | (refine wpl_store_blk rfl 34 (.tmp 12) (.tmp 50) rfl x1.heap.size 34 mZ cq4 rfl rfl ((Blk.new x1 34 mZ).alloc _) (by rw [Zq4.out]; rfl) (by rw [Zq4.out]; exact Tryz.szSt) Oq4.out ?_; intro x2 hB2 hO2; have HT := Lh (hO2.out.blk (show Blk ((x1.alloc (.cells mZ 34)).alloc (.cells rZ 39)) (x1.heap.size + 1) 39 rZ from by have h := Blk.new (x1.alloc (.cells mZ 34)) 39 rZ; rw [show (x1.alloc (.cells mZ 34)).heap.size = x1.heap.size + 1 from by simp] at h; exact h) (by omega)))
    | (refine wpl_store_blk rfl 39 (.tmp 13) (.tmp 51) rfl (x1.heap.size + 1) 39 rZ rq4 rfl rfl HT.out (by rw [YRq4.out]; rfl) (by rw [YRq4.out]; exact Tryz.szR) ORq4.out ?_; intro u5 hB3 hO3))
  have h3 : Below u4.heap.size u4 u5 := HBx.out.trans ((((((Below.refl _ _).alloc (Nat.le_refl _) _).alloc (by simp) _).trans (hO2.out.below (Nat.le_refl _))).trans (hO3.out.below (by omega)) : Below x1.heap.size x1 u5).mono HBx.out.size)
  have HT5 := hB3
  have BU5 := Lh (BU4.out.trans (h3.mono BU4.out.size))
  have HT1 := Lh (HT1.out.below h3 HT1.out.lt)
  have HT2 := Lh (HT2.out.below h3 HT2.out.lt)
  have HT3 := Lh (HT3.out.below h3 HT3.out.lt)
  have HT4 := Lh (HT4.out.below h3 HT4.out.lt)
  have HM5 := Lh (HM4.out.below h3 HM4.out.lt)
  have HI5 := Lh (HI4.out.later h3)
  obtain ⟨r5, er⟩ : ∃ r, x1.heap.size + 1 = r := ⟨_, rfl⟩
  rw [er] at HT5 ⊢
  clear er hB2 hO2 hB3 hO3 h3 HBx HT HM4 HI4 BU4
  have z1 := (HT1.out.cell 1).trans Q1.out
  have z2 := (HT1.out.cell 2).trans Q2.out
  have z3 := (HT2.out.cell 0).trans Q3.out
  have z4 := (HT3.out.cell 1).trans Q4.out
  have z5 := (HT4.out.cell 0).trans Q5.out
  have z6 := (HT5.out.cell 0).trans Q6.out
  go_wp2
  go_ret
  exact ⟨rfl, BU5.out⟩
end Go.Proofs.YtdoneomahlfkbaaGreat
end
section
namespace Go.Proofs.YtdoneomahlfkbaaGreat
open Go.RowKit OctMath StrMath PlMath
set_option linter.unusedVariables false
set_option linter.unusedSimpArgs false
theorem Tryz.zOb : (Tryz.prog.info? 58).map (fun i => (i.zero, i.size, i.bytes)) = some (some (.agg oZ), 7, 80) := by kernel_rfl
theorem oneOm (o : OM) : ∀ u ∈ omCs o, u.oneCell' = true := fun u hu => by
  have h : (omCs o).all (·.oneCell') = true := rfl
  exact List.all_eq_true.1 h u hu
theorem oneOms (os : List OM) : ∀ u ∈ os.flatMap omCs, u.oneCell' = true := fun u hu => by
  obtain ⟨o, _, h⟩ := List.mem_flatMap.1 hu
  exact oneOm o u h
theorem im_obj (i : IM) : ∀ (j : Nat) (v : Value), (omCs (toO i))[j]? = some v → (imCs i)[j]? = some v := fun j v h => by
  have hl : j < 7 := (List.getElem?_eq_some_iff.1 h).1
  have e : (imCs i).take 7 = omCs (toO i) := rfl
  rw [← e, List.getElem?_take_of_lt hl] at h
  exact h
set_option maxRecDepth 100000 in
set_option maxHeartbeats 8000000 in
theorem live_none (m : MM) (wt : WasT) (w : World) (hI : Hid (MIn m w)) (hS : Hid (MSt m)) (hsz : Hid (Siz m.x)) (hno : Hid (∀ o : ObjT, (o ∈ m.x.objs ∨ ∃ x ∈ m.x.ints, x.obj = o) → wt.id.ver = o.version → wt.id.ep ≠ o.epoch)) :
    Calls Tryz.prog 10 #[.agg m.cs, .agg (wasCs wt)] w fun e w' => e = .returned (.bool false) ∧ Below w.heap.size w w' := by
  obtain ⟨no, eno⟩ : ∃ x, m.x.objs.length = x := ⟨_, rfl⟩
  obtain ⟨ni, eni⟩ : ∃ x, m.x.ints.length = x := ⟨_, rfl⟩
  obtain ⟨OA, eOA⟩ : ∃ x, m.OA = x := ⟨_, rfl⟩
  obtain ⟨IA, eIA⟩ : ∃ x, m.IA = x := ⟨_, rfl⟩
  have hno1 : no ≤ 16777216 := by rw [← eno]; exact hI.out.wf.ol
  have hni : ni ≤ 16777216 := by rw [← eni]; exact hI.out.wf.il
  have HLO := Lh (show m.os.length = no from by rw [← eno]; exact hI.out.olen)
  have HLI := Lh (show m.is.length = ni from by rw [← eni]; exact hI.out.ilen)
  have HRO := Lh (show Reads w w.heap.size 7 OA no (m.os.flatMap omCs) from by have := hI.out.rows.objs.rd; unfold MM.objs at this; rw [eno, eOA] at this; exact this)
  have HRI := Lh (show Reads w w.heap.size 9 IA ni (m.is.flatMap imCs) from by have := hI.out.rows.ints.rd; unfold MM.ints at this; rw [eni, eIA] at this; exact this)
  have HOB := Lh (show ∀ o ∈ m.os ++ m.is.map toO, (oRow o).In w ∧ o.x.nodes.length ≤ 255 ∧ (wt.id.ver = o.x.version → wt.id.ep ≠ o.x.epoch) from fun o ho => by
    rcases List.mem_append.1 ho with ho | ho
    · exact ⟨hI.out.rows.os o ho, by rw [(hS.out.may.fitO o.x (obj_mem hI.out ho)).nodes]; exact nodesR_lenP _ _ _, hno.out o.x (.inl (obj_mem hI.out ho))⟩
    · obtain ⟨i, hi, rfl⟩ := List.mem_map.1 ho
      exact ⟨hI.out.rows.is i hi, by show i.x.obj.nodes.length ≤ 255; rw [(hS.out.may.fitI i.x (int_mem hI.out hi)).nodes]; exact nodesR_lenP _ _ _, hno.out i.x.obj (.inr ⟨i.x, int_mem hI.out hi, rfl⟩)⟩)
  obtain ⟨cs, ecs⟩ : ∃ cs, m.cs = cs := ⟨_, rfl⟩
  have V8 := Lh (show cs[8]? = some (.slice OA no m.oc) from by rw [← ecs, ← eOA, ← eno]; rfl)
  have V9 := Lh (show cs[9]? = some (.slice IA ni m.ic) from by rw [← ecs, ← eIA, ← eni]; rfl)
  have HCS := Lh (show cs.size = 14 from by rw [← ecs]; rfl)
  have HCO := Lh (show cs.toList.all (·.oneCell') = true from by rw [← ecs]; rfl)
  rw [ecs]
  clear ecs eOA eIA eno eni
  obtain ⟨wv, ewv⟩ : ∃ x : Int, (wt.id.ver : Int) = x := ⟨_, rfl⟩
  obtain ⟨we, ewe⟩ : ∃ x : Int, (wt.id.ep : Int) = x := ⟨_, rfl⟩
  obtain ⟨wi, ewi⟩ : ∃ x : Int, wt.id.idx = x := ⟨_, rfl⟩
  have HWV := Lh (And.intro ewv ewe)
  obtain ⟨ws, ews⟩ : ∃ ws, wasCs wt = ws := ⟨_, rfl⟩
  have U0 := Lh (show ws[0]? = some (.int .u64 wv) from by rw [← ews, ← ewv]; rfl)
  have U1 := Lh (show ws[1]? = some (.int .i64 wi) from by rw [← ews, ← ewi]; rfl)
  have U2 := Lh (show ws[2]? = some (.int .u64 we) from by rw [← ews, ← ewe]; rfl)
  have HWS := Lh (show ws.size = 4 from by rw [← ews]; rfl)
  have HWO := Lh (show ws.toList.all (·.oneCell') = true from by rw [← ews]; rfl)
  rw [ews]
  clear ews ewv ewe ewi
  go_enter Tryz.func10, Tryz.ntmps10
  go_upto_region 1 with (fail)
  have h1 := (Blk.new w 34 cs).alloc (.cells ws 52)
  have h2 := Blk.new (w.alloc (.cells cs 34)) 52 ws
  rw [show (w.alloc (.cells cs 34)).heap.size = w.heap.size + 1 from by simp] at h2
  have hb0 : Below w.heap.size w ((w.alloc (.cells cs 34)).alloc (.cells ws 52)) := ((Below.refl _ _).alloc (Nat.le_refl _) _).alloc (by simp) _
  obtain ⟨w1, ew1⟩ : ∃ w1, (w.alloc (.cells cs 34)).alloc (.cells ws 52) = w1 := ⟨_, rfl⟩
  rw [ew1] at h1 h2 hb0 ⊢
  have HB := Lh h1
  have HW := Lh h2
  have HB0 := Lh hb0
  clear ew1 h1 h2 hb0
  obtain ⟨b0, e0⟩ : ∃ b0, w.heap.size = b0 := ⟨_, rfl⟩
  have E0 := Lh e0
  rw [e0] at HB HW ⊢
  clear e0
  have k8 := (HB.out.cell 8).trans V8.out
  go_wp2_with (refine wpl_append rfl (.tmp 10) (.tmp 12) 29 rfl w1 w1.heap.size 58 _ 7 80 Tryz.underlying29 Tryz.zOb rfl (by decide) (.slice none 0 0) 0 [] rfl ⟨rfl, .inl ⟨rfl, rfl⟩⟩ w1.heap.size OA no m.oc (m.os.flatMap omCs) rfl (HRO.out.later HB0.out) (oneOms _) (by omega) (by decide) (Below.refl _ _) (Nat.le_refl _) ?_; intro v w2 hv; have HV := hv)
  have HV := Lh (show w2.ownsRow w1.heap.size 58 7 v (no + 0) ((m.os ++ (m.is.take 0).map toO).flatMap omCs) ∧ Below w1.heap.size w1 w2 from by
    have h := hv.out
    rw [Nat.zero_add, List.nil_append] at h
    exact ⟨by simpa using h.1, h.2.1⟩)
  clear hv k8
  go_wp2_with fail
  go_loopw [5, 6] (fun v vi wr => ∃ k : Nat, k ≤ ni ∧ vi = .int .i64 k ∧ Hid (wr.ownsRow w1.heap.size 58 7 v (no + k) ((m.os ++ (m.is.take k).map toO).flatMap omCs) ∧ Below w1.heap.size w1 wr)) (fun _ vi _ => ni - (intOf vi).toNat)
  case atStart => exact ⟨0, by omega, rfl, HV⟩
  case round =>
    obtain ⟨k, hk, rfl, HVk⟩ := hrel
    have k9 := ((HB.out.below HVk.out.2 HB.out.lt).cell 9).trans V9.out
    by_cases hlt : k < ni
    · have hmsl : k < m.is.length := by have := HLI.out; omega
      have htk : m.is.take (k + 1) = m.is.take k ++ [m.is[k]] := List.take_succ_eq_append_getElem hmsl
      obtain ⟨ad, rfl, hadb, hcell⟩ := elem_cells (cells := imCs) (K := 9) (fun _ => rfl) (HRI.out.later (HB0.out.trans (HVk.out.2.mono HB0.out.size))) hmsl (by omega)
      obtain ⟨i, ei⟩ : ∃ i, m.is[k] = i := ⟨_, rfl⟩
      rw [ei] at hcell htk
      have HC1 := Lh (fun j v hv => hcell j v (im_obj i j v hv))
      have HTK := Lh htk
      clear ei hcell htk hmsl hadb
      obtain ⟨os, eos⟩ : ∃ os, oA (toO i) = os := ⟨_, rfl⟩
      have EOS := Lh eos
      have HOZ := Lh (show os.size = 7 from by rw [← eos]; rfl)
      have HOL := Lh (show os.toList = omCs (toO i) from by rw [← eos]; rfl)
      have HC1 : Hid (∀ j v, os.toList[j]? = some v → wr.cell? ((ad.add (k * 9)).add j) = some v) := by rw [HOL.out]; exact HC1
      clear eos
      go_wp2_with (first
        | (refine wpl_load_at rfl 58 (.tmp 26) rfl (ad.add (k * 9)) os.toList _ rfl HC1.out Tryz.underlying58 rfl (by rw [Array.length_toList, HOZ.out]; exact Tryz.szObj) ?_)
        | (refine wpl_build1g rfl 29 58 (.tmp 27) rfl 7 (by decide) (by decide) os HOZ.out rfl Tryz.underlying29 Tryz.sbObj ?_)
        | (refine wpl_append rfl (.tmp 21) (.tmp 28) 29 rfl w1 w1.heap.size 58 _ 7 80 Tryz.underlying29 Tryz.zOb rfl (by decide) _ (no + k) _ rfl (HVk.out.1.alloc _) (wr.heap.size + 1) (some ⟨wr.heap.size, 0, none⟩) 1 1 os.toList rfl (by have h := reads_blk (n := 1) (K := 7) (Blk.new wr 58 os) (by rw [HOZ.out]); simpa using h) (by rw [HOL.out]; exact oneOm _) (by omega) (by decide) (HVk.out.2.alloc HVk.out.2.size _) (by have := HVk.out.2.size; simp; omega) ?_; intro v' w3 hv'))
      have HN := Lh (show w3.ownsRow w1.heap.size 58 7 v' (no + (k + 1)) ((m.os ++ (m.is.take (k + 1)).map toO).flatMap omCs) ∧ Below w1.heap.size w1 w3 from by
        have h := hv'.out
        rw [HTK.out, List.map_append, ← List.append_assoc, List.flatMap_append]
        rw [HOL.out] at h
        exact ⟨by rw [show no + (k + 1) = no + k + 1 from rfl]; simpa using h.1, h.2.1⟩)
      clear hv' k9
      exact ⟨⟨k + 1, by omega, by go_num, HN⟩, by simp [intOf]; omega⟩
    · obtain rfl : ni = k := by omega
      obtain ⟨n2, en2⟩ : ∃ n2, no + ni = n2 := ⟨_, rfl⟩
      have hn2 : n2 ≤ 33554432 := by omega
      obtain ⟨L, eL⟩ : ∃ L, m.os ++ m.is.map toO = L := ⟨_, rfl⟩
      have HLL := Lh (show L.length = n2 from by rw [← eL, ← en2, List.length_append, List.length_map, HLO.out, HLI.out])
      have hvk := HVk.out
      rw [List.take_of_length_le (by rw [HLI.out]; exact Nat.le_refl _), eL, en2] at hvk
      rw [eL] at HOB
      obtain ⟨LA, lc, rfl, _, _⟩ := own_slice hvk.1
      have HRL := Lh (Reads.of_own hvk.1)
      have HBL := Lh hvk.2
      clear hvk HVk eL en2 k9 hk hlt
      obtain ⟨wa, hwa⟩ : ∃ wa, wa = wr := ⟨_, rfl⟩
      subst hwa
      have k9 := ((HB.out.below HBL.out HB.out.lt).cell 9).trans V9.out
      go_wp2_with fail
      clear k9
      go_loopw [7] (fun vi wr => ∃ k : Nat, k ≤ n2 ∧ vi = .int .i64 k ∧ Hid (Below wa.heap.size wa wr)) (fun vi _ => n2 - (intOf vi).toNat)
      case atStart => exact ⟨0, by omega, rfl, Lh (Below.refl _ _)⟩
      case round =>
        obtain ⟨k, hk, rfl, HBk⟩ := hrel
        by_cases hlt : k < n2
        · have hmsl : k < L.length := by have := HLL.out; omega
          obtain ⟨ad, rfl, hadb, hcell⟩ := elem_cells (cells := omCs) (K := 7) (fun _ => rfl) (HRL.out.later HBk.out) hmsl (by omega)
          have hob := HOB.out L[k] (List.getElem_mem hmsl)
          obtain ⟨o, eo⟩ : ∃ o, L[k] = o := ⟨_, rfl⟩
          rw [eo] at hcell hob
          have B1k := Lh (HBL.out.trans (HBk.out.mono HBL.out.size))
          have hch := chunks_any o wr (Lh (hob.1.later (HB0.out.trans (B1k.out.mono HB0.out.size)))) (by omega)
          obtain ⟨os, eos⟩ : ∃ os, oA o = os := ⟨_, rfl⟩
          have HOZ := Lh (show os.size = 7 from by rw [← eos]; rfl)
          have HC1 : Hid (∀ j v, os.toList[j]? = some v → wr.cell? ((ad.add (k * 7)).add j) = some v) := by rw [← eos]; exact Lh hcell
          rw [eos] at hch
          obtain ⟨nn, enn⟩ : ∃ nn, o.x.nodes.length = nn := ⟨_, rfl⟩
          rw [enn] at hch hob
          have HCH := Lh hch
          have hnn : nn ≤ 255 := hob.2.1
          have HSE := Lh hob.2.2
          clear eos eo hcell hmsl hadb hch hob enn
          go_upto_region 11 with (first
            | (refine wpl_load_at rfl 58 (.tmp 38) rfl (ad.add (k * 7)) os.toList _ rfl HC1.out Tryz.underlying58 rfl (by rw [Array.length_toList, HOZ.out]; exact Tryz.szObj) ?_)
            | (go_at_call 29; refine HCH.out.mono ?_; rintro e w5 ⟨v8, rfl, ho8, hb8⟩; obtain ⟨CA, ccp, rfl, _, _⟩ := own_slice ho8; have HR8 := Lh (Reads.of_own ho8); have HB8 := Lh hb8; clear ho8 hb8))
          go_wp2_with fail
          go_loopw [9] (fun vi wx => ∃ j : Nat, j ≤ nn ∧ vi = .int .i64 j ∧ Hid (Below w5.heap.size w5 wx)) (fun vi _ => nn - (intOf vi).toNat)
          case atStart => exact ⟨0, by omega, rfl, Lh (Below.refl _ _)⟩
          case round =>
            obtain ⟨j, hj, rfl, HBj⟩ := hrel
            have BK5 := Lh (B1k.out.trans ((HB8.out.trans (HBj.out.mono HB8.out.size)).mono B1k.out.size))
            by_cases hjt : j < nn
            · have hjl : j < (List.range nn).length := by rw [List.length_range]; exact hjt
              obtain ⟨al, rfl, halb, hcj⟩ := elem_cells (cells := ck1 o.x.version o.x.epoch) (K := 3) (fun _ => rfl) (HR8.out.later HBj.out) hjl (by omega)
              rw [List.getElem_range] at hcj
              obtain ⟨ov, eov⟩ : ∃ x : Int, (o.x.version : Int) = x := ⟨_, rfl⟩
              obtain ⟨oe, eoe⟩ : ∃ x : Int, (o.x.epoch : Int) = x := ⟨_, rfl⟩
              have HCJ : Hid (∀ j' v, [Value.int .u64 ov, .int .i64 (j : Int), .int .u64 oe][j']? = some v → wr.cell? ((al.add (j * 3)).add j') = some v) := by rw [← eov, ← eoe]; exact Lh hcj
              have HAL := Lh halb
              have HWC := Lh (show ∀ j' v, [Value.int .u64 wv, .int .i64 wi, .int .u64 we][j']? = some v → wr.cell? ((⟨b0 + 1, 0, none⟩ : Addr).add j') = some v from fun j' v hv => by
                have hB := HW.out.below BK5.out HW.out.lt
                rw [addr0]
                match j', hv with
                | 0, hv => rw [← Option.some.inj hv]; exact (hB.cell 0).trans U0.out
                | 1, hv => rw [← Option.some.inj hv]; exact (hB.cell 1).trans U1.out
                | 2, hv => rw [← Option.some.inj hv]; exact (hB.cell 2).trans U2.out)
              have hcase : (ov == wv) = false ∨ ((ov == wv) = true ∧ ((j : Int) == wi) = false) ∨ ((ov == wv) = true ∧ ((j : Int) == wi) = true ∧ (oe == we) = false) := by
                cases h1 : ov == wv with
                | false => exact .inl rfl
                | true =>
                  have h1' : ov = wv := by simpa using h1
                  have h3 : oe ≠ we := by
                    have := HSE.out (by have := HWV.out.1; omega)
                    have := HWV.out.2
                    omega
                  cases h2 : (j : Int) == wi with
                  | false => exact .inr (.inl ⟨rfl, rfl⟩)
                  | true => exact .inr (.inr ⟨rfl, rfl, by simpa using h3⟩)
              clear hcj halb eov eoe hjl
              go_upto_region 14 with (fail)
              rcases hcase with e1 | ⟨e1, e2⟩ | ⟨e1, e2, e3⟩
              all_goals
                refine wp_region_late (S0 := fun w' => Below wr.heap.size wr w') (S := fun _ => True) 6 7 (by kernel_rfl) rfl ⟨(Below.refl _ _).drew, trivial⟩ (fun wd hwd hH => ?_)
                have DW := Lh (show Below wr.heap.size wr wd from by rw [hwd]; exact (Below.refl _ _).drew)
                clear hwd
                refine wpAnyT_stay 0 (v := ?_) rfl (by kernel_rfl) (fun _ _ _ h => h) (Or.inl ⟨by rfl, ?_⟩) ⟨hH.1, fun _ => hH.2⟩ ?_
                rotate_left
                · (intro wx hx; go_simp <;> with_reducible rfl)
                try simp only [Act.put, pA9, pZ9, pS9]
                refine wpAnyT_stay 1 (v := ?_) rfl (by kernel_rfl) (fun _ _ _ h => h) (Or.inl ⟨by rfl, ?_⟩) ⟨hH.1, fun _ => hH.2⟩ ?_
                rotate_left
                · (intro wx hx; go_simp <;> with_reducible rfl)
                try simp only [Act.put, pA9, pZ9, pS9]
                refine wpAnyT_stay 2 (v := ?_) rfl (by kernel_rfl) (fun _ _ _ h => h) (Or.inl ⟨by rfl, ?_⟩) ⟨hH.1, fun _ => hH.2⟩ ?_
                rotate_left
                · (intro wx hx; go_simp <;> with_reducible rfl)
                try simp only [Act.put, pA9, pZ9, pS9]
                refine wpAnyT_stay 3 rfl (by kernel_rfl) (fun _ _ _ h => h) (yields_load_at rfl 46 (.tmp 49) rfl (al.add (j * 3)) [Value.int .u64 ov, .int .i64 (j : Int), .int .u64 oe] _ rfl (fun w' hw' j' v hv => (Below.cell hw' (p := (al.add (j * 3)).add j') (by rw [block_of_add, block_of_add]; exact HAL.out)).trans (HCJ.out j' v hv)) Tryz.underlying46 rfl rfl) ⟨hH.1, fun _ => hH.2⟩ ?_
                try simp only [Act.put, pA9, pZ9, pS9]
                refine wpAnyT_stay 4 (v := ?_) rfl (by kernel_rfl) (fun _ _ _ h => h) (Or.inl ⟨by rfl, ?_⟩) ⟨hH.1, fun _ => hH.2⟩ ?_
                rotate_left
                · (intro wx hx; go_simp <;> with_reducible rfl)
                try simp only [Act.put, pA9, pZ9, pS9]
                refine wpAnyT_stay 5 rfl (by kernel_rfl) (fun _ _ _ h => h) (yields_load_at rfl 46 (.tmp 51) rfl (⟨b0 + 1, 0, none⟩) [Value.int .u64 wv, .int .i64 wi, .int .u64 we] _ rfl (fun w' hw' j' v hv => (Below.cell hw' (p := (⟨b0 + 1, 0, none⟩ : Addr).add j') (by rw [block_of_add]; exact (HW.out.below BK5.out HW.out.lt).lt)).trans (HWC.out j' v hv)) Tryz.underlying46 rfl rfl) ⟨hH.1, fun _ => hH.2⟩ ?_
                try simp only [Act.put, pA9, pZ9, pS9]
                refine wpAnyT_last 6 rfl (by kernel_rfl) (by decide) (fun K hQ => ?_)
                go_simp
                refine hQ.out _ _ ?_ (fun hH6 => ?_)
                · exact DW.out
                clear hQ K
                try simp only [Act.put, pA9, pZ9, pS9]
                refine wpAnyT_done (by kernel_rfl) ?_ _
                clear hH hH6
                go_wp2
                exact ⟨⟨j + 1, by omega, by go_num, Lh (HBj.out.trans (DW.out.mono HBj.out.size))⟩, by simp [intOf]; omega⟩
            · obtain rfl : nn = j := by omega
              go_wp2
              exact ⟨⟨k + 1, by omega, by go_num, Lh (HBk.out.trans ((HB8.out.trans (HBj.out.mono HB8.out.size)).mono HBk.out.size))⟩, by simp [intOf]; omega⟩
        · obtain rfl : n2 = k := by omega
          go_wp2
          go_ret
          exact ⟨rfl, HB0.out.trans ((HBL.out.trans (HBk.out.mono HBL.out.size)).mono HB0.out.size)⟩
end Go.Proofs.YtdoneomahlfkbaaGreat
end
section
namespace Go.Proofs.YtdoneomahlfkbaaGreat
open Go.RowKit OctMath StrMath PlMath
set_option linter.unusedVariables false
set_option linter.unusedSimpArgs false
set_option maxRecDepth 100000 in
set_option maxHeartbeats 8000000 in
theorem moving_none (m : MM) (w : World) (hI : Hid (MIn m w)) (hS : Hid (MSt m)) (hla : m.x.last < 18446744073709551616) (hep : Hid (∀ o ∈ m.x.objs, o.epoch = m.x.nep)) :
    Calls Tryz.prog 12 #[.agg m.cs] w fun e w' => e = .returned (.slice none 0 0) ∧ Below w.heap.size w w' := by
  have HMY := Lh (fun W (h : Below w.heap.size w W) => may_true m W (Lh (hI.out.later h)) hS hla)
  obtain ⟨no, eno⟩ : ∃ x, m.x.objs.length = x := ⟨_, rfl⟩
  obtain ⟨OA, eOA⟩ : ∃ x, m.OA = x := ⟨_, rfl⟩
  obtain ⟨ni, eni⟩ : ∃ x : Int, (m.x.nep : Int) = x := ⟨_, rfl⟩
  have hno : no ≤ 16777216 := by rw [← eno]; exact hI.out.wf.ol
  have HLO := Lh (show m.os.length = no from by rw [← eno]; exact hI.out.olen)
  have HRO := Lh (show Reads w w.heap.size 7 OA no (m.os.flatMap omCs) from by have := hI.out.rows.objs.rd; unfold MM.objs at this; rw [eno, eOA] at this; exact this)
  have HEP := Lh (show ∀ o ∈ m.os, (o.x.epoch : Int) = ni from fun o ho => by rw [← eni, hep.out o.x (obj_mem hI.out ho)])
  obtain ⟨cs, ecs⟩ : ∃ cs, m.cs = cs := ⟨_, rfl⟩
  have V5 := Lh (show cs[5]? = some (.int .u64 ni) from by rw [← ecs, ← eni]; rfl)
  have V8 := Lh (show cs[8]? = some (.slice OA no m.oc) from by rw [← ecs, ← eOA, ← eno]; rfl)
  have HCS := Lh (show cs.size = 14 from by rw [← ecs]; rfl)
  have HCO := Lh (show cs.toList.all (·.oneCell') = true from by rw [← ecs]; rfl)
  rw [ecs] at HMY
  rw [ecs]
  clear ecs eno eOA eni
  go_enter Tryz.func12, Tryz.ntmps12
  go_upto_region 1 with (fail)
  have HB := Lh (Blk.new w 34 cs)
  have HB0 := Lh (show Below w.heap.size w (w.alloc (.cells cs 34)) from (Below.refl _ _).alloc (Nat.le_refl _) _)
  obtain ⟨w1, ew1⟩ : ∃ w1, w.alloc (.cells cs 34) = w1 := ⟨_, rfl⟩
  rw [ew1] at HB HB0 ⊢
  clear ew1
  obtain ⟨b0, e0⟩ : ∃ b0, w.heap.size = b0 := ⟨_, rfl⟩
  rw [e0] at HB ⊢
  clear e0
  go_upto_region 4 with (first
    | (refine wpl_load_blk rfl 34 (.tmp 1) rfl b0 34 cs _ rfl HB.out Tryz.underlying34 rfl (by rw [HCS.out]; exact Tryz.szSt) ?_)
    | (go_at_call 17; refine (HMY.out w1 HB0.out).mono ?_; rintro e w2 ⟨rfl, hb2⟩; have HB2 := Lh hb2; clear hb2))
  have k8 := ((HB.out.below HB2.out HB.out.lt).cell 8).trans V8.out
  go_wp2_with fail
  clear k8
  go_loopw [3, 12] (fun vo vi wr => ∃ k : Nat, k ≤ no ∧ vo = .slice none 0 0 ∧ vi = .int .i64 k ∧ Hid (Below w1.heap.size w1 wr)) (fun _ vi _ => no - (intOf vi).toNat)
  case atStart => exact ⟨0, by omega, rfl, rfl, HB2⟩
  case round =>
    obtain ⟨k, hk, rfl, rfl, HBk⟩ := hrel
    by_cases hlt : k < no
    · have hmsl : k < m.os.length := by have := HLO.out; omega
      obtain ⟨ad, rfl, hadb, hcell⟩ := elem_cells (cells := omCs) (K := 7) (fun _ => rfl) (HRO.out.later (HB0.out.trans (HBk.out.mono HB0.out.size))) hmsl (by omega)
      have hep' := HEP.out m.os[k] (List.getElem_mem hmsl)
      obtain ⟨o, eo⟩ : ∃ o, m.os[k] = o := ⟨_, rfl⟩
      rw [eo] at hcell hep'
      obtain ⟨os, eos⟩ : ∃ os, oA o = os := ⟨_, rfl⟩
      have HOZ := Lh (show os.size = 7 from by rw [← eos]; rfl)
      have HOO := Lh (show os.toList.all (·.oneCell') = true from by rw [← eos]; rfl)
      have U5 := Lh (show os[5]? = some (.int .u64 ni) from by rw [← eos, ← hep']; rfl)
      have HC1 : Hid (∀ j v, os.toList[j]? = some v → wr.cell? ((ad.add (k * 7)).add j) = some v) := by rw [← eos]; exact Lh hcell
      have q1 : (ni != ni) = false := by simp
      have k5 := Lh (((HB.out.below HBk.out HB.out.lt).cell 5).trans V5.out)
      clear eos eo hcell hadb hmsl hep'
      go_upto_region 7 with (first
        | (refine wpl_load_at rfl 58 (.tmp 14) rfl (ad.add (k * 7)) os.toList _ rfl HC1.out Tryz.underlying58 rfl (by rw [Array.length_toList, HOZ.out]; exact Tryz.szObj) ?_)
        | (refine wpl_store_blk rfl 58 (.tmp 5) (.tmp 15) rfl wr.heap.size 58 oZ os rfl rfl (Blk.new wr _ _) (by rw [HOZ.out]; rfl) (by rw [HOZ.out]; exact Tryz.szObj) HOO.out ?_; intro w4 hB4 hO4))
      have HB4 := Lh (show Below wr.heap.size wr w4 from ((Below.refl _ _).alloc (Nat.le_refl _) _).trans (hO4.out.below (Nat.le_refl _)))
      have y5 := (hB4.out.cell 5).trans U5.out
      have k5 := cell_later HB4.out k5.out
      go_wp2
      exact ⟨⟨k + 1, by omega, rfl, by go_num, Lh (HBk.out.trans (HB4.out.mono HBk.out.size))⟩, by simp [intOf]; omega⟩
    · obtain rfl : no = k := by omega
      go_wp2
      go_ret
      exact ⟨rfl, HB0.out.trans (HBk.out.mono HB0.out.size)⟩
end Go.Proofs.YtdoneomahlfkbaaGreat
end
section
namespace Go.Proofs.YtdoneomahlfkbaaGreat
open Go.RowKit OctMath StrMath PlMath
set_option linter.unusedVariables false
set_option linter.unusedSimpArgs false
section
variable {P : PlF} {m : MetT}
structure Over (m m' : MetT) (c : CmdT) : Prop where
  kind : c.kind = 7
  mep : m'.mep = m.nep
  nep : m'.nep = m.nep
  os : ∀ o ∈ m'.objs, o.epoch = m.nep
  is : ∀ x ∈ m'.ints, x.obj.epoch = m.nep
theorem ask_mep {c : CmdT} {m' : MetT} (h : Good P m) (e : askM m c = .inr m') : m'.mep = m.mep := by
  obtain ⟨-, -, -, -, -, -, -, h1⟩ := ask_good h c e
  rcases h1 with rfl | ⟨x, _, rfl⟩
  · rfl
  · rfl
theorem away_mep (m : MetT) (key : List Nat) : (awayM m key).1.mep = m.mep := by
  unfold awayM
  split <;> rfl
theorem step_over (h : Good P m) (hc : CutI m) (c : CmdT) : (stepM P m c).1.mep = m.mep ∨ Over m (stepM P m c).1 c := by
  unfold stepM
  split
  · refine .inl ?_
    unfold beginM
    cases e : askM m c with
    | inl r => rfl
    | inr m' => exact (show m'.mep = m.mep from ask_mep h e)
  split
  · refine .inl ?_
    unfold commitM
    split
    · rfl
    · exact (away_mep _ _)
  split
  · refine .inl ?_
    unfold abortM
    split <;> rfl
  split
  · refine .inl ?_
    unfold removeM
    cases e : askM m c with
    | inl r => rfl
    | inr m' => exact (away_mep _ _).trans (ask_mep h e)
  split
  · refine .inl ?_
    unfold comingM
    split <;> rfl
  split
  · refine .inl ?_
    unfold movedM
    split
    · rfl
    · split <;> rfl
  split
  · rename_i k7
    unfold cutM
    split
    · exact .inl rfl
    · rename_i h1
      split
      · exact .inl rfl
      · rename_i h2
        simp only []
        split
        · rename_i h3
          have hg : 0 ≤ c.group ∧ c.group < m.groups := by
            have a1 : ¬ c.group < 0 := fun q => h1 (.inr (.inl q))
            have a2 : ¬ m.groups ≤ c.group := fun q => h1 (.inr (.inr (.inl q)))
            omega
          simp only [Bool.or_eq_true, not_or, Bool.not_eq_true] at h2
          obtain ⟨e1, e2⟩ := cut_full h hc c hg h2.1 h2.2 h3
          exact .inr ⟨k7, rfl, rfl, e1, e2⟩
        · exact .inl rfl
  split
  · exact .inl rfl
  split
  · refine .inl ?_
    unfold liveM
    split
    · split <;> rfl
    · rfl
  · exact .inl rfl
theorem apply_over (h : Inv P m) {ix : Nat} (hl : m.last < ix) (c : CmdT) : (applyM P m ix c).1.mep = m.mep ∨ Over m (applyM P m ix c).1 c := by
  have := step_over (h.good.later (Nat.le_of_lt hl)) (h.ext.later (Nat.le_of_lt hl)).cut c
  rcases this with h1 | h1
  · exact .inl h1
  · exact .inr ⟨h1.kind, h1.mep, h1.nep, h1.os, h1.is⟩
structure Gone (m : MetT) (v : Nat) : Prop where
  le : v ≤ m.last
  os : ∀ o ∈ m.objs, o.version ≠ v
  is : ∀ x ∈ m.ints, x.obj.version ≠ v
theorem gone_keep (h : Inv P m) {ix : Nat} (hl : m.last < ix) (hx : ix < 9223372036854775808) (c : CmdT) {v : Nat} (hv : Gone m v) : Gone (applyM P m ix c).1 v := by
  obtain ⟨_, s, _⟩ := apply_inv h hl hx c
  refine ⟨by rw [s.last]; exact Nat.le_trans hv.le (Nat.le_of_lt hl), fun o ho e => ?_, fun x hx e => ?_⟩
  · rcases s.vo o ho with ⟨y, hy, e2⟩ | ⟨y, hy, e2⟩
    · exact hv.os y hy (e2.trans e)
    · exact hv.is y hy (e2.trans e)
  · rcases s.vi x hx with h1 | h1
    · exact hv.is x h1 e
    · have : x.obj.version = ix := h1
      have := hv.le
      omega
theorem gone_new (h : Inv P m) {ix : Nat} (hl : m.last < ix) (c : CmdT) (hk : c.kind = 3) (hc : (applyM P m ix c).2.code = 1) : Gone (applyM P m ix c).1 c.version := by
  have hb := h.good.base
  have e1 : applyM P m ix c = abortM { m with last := ix } c := by
    unfold applyM stepM
    rw [if_neg (by omega), if_neg (by omega), if_pos hk]
  rw [e1] at hc ⊢
  unfold abortM at hc ⊢
  cases e : findR natO verI c.version ({ m with last := ix } : MetT).ints with
  | none => rw [e] at hc; exact absurd (show (3 : Int) = 1 from hc) (by decide)
  | some x =>
    obtain ⟨hx, hv⟩ := (find_some hb.ints).1 e
    have hv' : x.obj.version = c.version := hv
    refine ⟨?_, fun o ho e2 => ?_, fun y hy e2 => ?_⟩
    · rw [← hv']
      exact Nat.le_trans (hb.fitI x hx).last (Nat.le_of_lt hl)
    · exact hb.vers.oi o ho x hx (by rw [hv']; exact e2)
    · have h1 := ((mem_drop_ hb.ints).1 hy).2
      exact h1 (by show y.obj.version = _; rw [e2, hv'])
end
end Go.Proofs.YtdoneomahlfkbaaGreat
end
