/-
  THE MACHINE: intents given up, objects that go. (printed by gen_meh4.py); SEARCHING A ROW: the closure that compares, the library's search, find (int). (printed by gen_mef.py). (joined out of MeH4, MeFI64 by shake.py)
-/
import Derived.Test.YtdoneomahlfkbaaGreatMcm09
import Derived.Test.YtdoneomahlfkbaaGreatMcm02
import Derived.Test.YtdoneomahlfkbaaGreatMcm03
section
namespace Go.Proofs.YtdoneomahlfkbaaGreat
open Go.RowKit OctMath
set_option linter.unusedVariables false
set_option linter.unusedSimpArgs false
def toO (i : IM) : OM := ⟨i.x.obj, i.A, i.c⟩
theorem iA_obj {w : World} {b : Nat} {t : TypeId} {i : IM} (h : Blk w b t (iA i)) : ∀ j v, (omCs (toO i))[j]? = some v → w.cell? ((⟨b, 0, none⟩ : Addr).add j) = some v := fun j v hj => by
  have hl : j < 7 := (List.getElem?_eq_some_iff.1 hj).1
  rw [addr0, h.cell, ← Array.getElem?_toList]
  have e : (iA i).toList.take 7 = omCs (toO i) := rfl
  rw [← e, List.getElem?_take_of_lt hl] at hj
  exact hj
theorem off_drop {g : Nat} {K n n' c c' : Nat} {A A' : Option Addr} {C C' : List Value} {b : Nat} (h : (⟨K, A, c, n, C⟩ : RowT).Off g) (hn : 0 < n' → 0 < n) (hb : g < b) (hd : 0 < n' → ∀ ad, A' = some ad → A' = A ∨ b ≤ ad.block) : (⟨K, A', c', n', C'⟩ : RowT).Off g := fun h0 ad e => by
  rcases hd h0 ad e with h1 | h1
  · exact h (hn h0) ad (by show A = some ad; rw [← h1]; exact e)
  · omega
theorem drop_pos {α : Type} {f : Nat → Int} {ms : List α} (h : 0 < (dropB f ms).length) : 0 < ms.length := by
  rw [dropB_len] at h
  split at h <;> omega
theorem drop_int {ms : List IM} {xs : List IntT} (e : ms.map (fun i => i.x) = xs) (h : Ris natO verI xs) (v : Nat) : (dropB (fL (cmpItt v) ms) ms).map (fun i => i.x) = dropR natO verI v xs := by
  subst e
  have hr : Ris natO (fun i : IM => verI i.x) ms := ris_map (key := verI) (fun i : IM => i.x) h
  have h1 := dropB_eq hr v
  have h2 := dropR_map (o := natO) (key := verI) (fun i : IM => i.x) v ms
  exact (congrArg (List.map fun i : IM => i.x) h1).trans h2
theorem drop_obj {ms : List OM} {xs : List ObjT} (e : ms.map (fun i => i.x) = xs) (h : Ris bytO ObjT.key xs) (v : List Nat) : (dropB (fL (cmpObj v) ms) ms).map (fun i => i.x) = dropR bytO ObjT.key v xs := by
  subst e
  have hr : Ris bytO (fun i : OM => ObjT.key i.x) ms := ris_map (key := ObjT.key) (fun i : OM => i.x) h
  have h1 := dropB_eq hr v
  have h2 := dropR_map (o := bytO) (key := ObjT.key) (fun i : OM => i.x) v ms
  exact (congrArg (List.map fun i : OM => i.x) h1).trans h2
theorem put_obj {ms : List OM} {xs : List ObjT} (e : ms.map (fun i => i.x) = xs) (h : Ris bytO ObjT.key xs) (y : OM) : (putB (fL (cmpObj y.x.key) ms) y ms).map (fun i => i.x) = putR bytO ObjT.key y.x xs := by
  subst e
  have hr : Ris bytO (fun i : OM => ObjT.key i.x) ms := ris_map (key := ObjT.key) (fun i : OM => i.x) h
  have h1 := putB_eq hr y
  have h2 := putR_map (o := bytO) (key := ObjT.key) (fun i : OM => i.x) y ms
  exact (congrArg (List.map fun i : OM => i.x) h1).trans h2
set_option maxRecDepth 100000 in
set_option maxHeartbeats 8000000 in
theorem giveUp_any (G : List Nat) (g : Nat) (m : MM) (x : IM) (w : World) (hM : Hid (MS G g m w)) (hx : Hid ((iRow x).In w)) (hf : Hid ((iRow x).Off g)) (hn : x.x.obj.nodes.length ≤ 255) (hR : Hid (Ris wasO (fun x => x) m.x.wass)) (hRI : Hid (Ris natO verI m.x.ints)) (hl : m.x.wass.length + x.x.obj.nodes.length ≤ 33554432) :
    Calls Tryz.prog 60 #[.pointer (some ⟨g, 0, none⟩), .agg (iA x)] w fun e w' => e = .returned (.tuple #[]) ∧ TurnM G g (giveUpM m.x x.x) w w' := by
  obtain ⟨cs, ecs⟩ : ∃ cs, iA x = cs := ⟨_, rfl⟩
  have HW := Lh (fun W (h : Hid (MS G g m W)) (h2 : Hid ((oRow (toO x)).In W)) => waste_any G g m (toO x) W h h2 hf hn hR hl)
  have hb0 : Below w.heap.size w (w.alloc (.cells cs 60)) := (Below.refl _ _).alloc (Nat.le_refl _) _
  have hB := Blk.new w 60 cs
  have hM1 := hM.out.later hb0
  have hX1 := hx.out.later hb0
  have hOC := iA_obj (i := x) (by rw [ecs]; exact hB)
  have hV : cs[1]? = some (.int .u64 (x.x.obj.version : Int)) := by rw [← ecs]; rfl
  have HM1 := Lh hM1
  have HX1 : Hid ((oRow (toO x)).In (w.alloc (.cells cs 60))) := Lh hX1
  have HOC := Lh hOC
  have HV := Lh hV
  have HB := Lh hB
  have HB0 := Lh hb0
  have HGL := Lh hM.out.blk.lt
  rw [ecs]
  clear hb0 hB hM1 hX1 hOC hV ecs hM hx
  go_enter Tryz.func60, Tryz.ntmps60
  go_wp2_with (first
    | (refine wpl_load_at rfl 58 (.tmp 5) rfl ⟨w.heap.size, 0, none⟩ (omCs (toO x)) _ rfl HOC.out Tryz.underlying58 rfl rfl ?_)
    | (go_at_call 65; refine (HW.out _ HM1 HX1).mono ?_; rintro e w2 ⟨rfl, hgb, A2, c2, hm2⟩; have HGB := Lh hgb; have HM2 := Lh hm2; clear hgb hm2))
  obtain ⟨m2, em2⟩ : ∃ m2, m.setW (wasteF m.x.wass (toO x).x) A2 c2 = m2 := ⟨_, rfl⟩
  have HX2 := Lh (show m2.x = { m.x with wass := wasteF m.x.wass x.x.obj } from by rw [← em2]; rfl)
  have HI2 := Lh (show m2.is = m.is from by rw [← em2]; rfl)
  rw [em2] at HM2
  have HB2 := Lh (HB.out.gb HGB.out (Nat.ne_of_gt HGL.out))
  have hlt2 := Lh (show w.heap.size < w2.heap.size from HB2.out.lt)
  have HGB0 := Lh (gb_trans (gb_below HB0.out _) HGB.out)
  clear em2 HM1 HX1 HOC HW HB HGB HB0
  obtain ⟨b0, e0⟩ : ∃ b0, w.heap.size = b0 := ⟨_, rfl⟩
  rw [e0] at HB2 HGL hlt2 ⊢
  clear e0
  have HRI2 := Lh (show Ris natO verI m2.x.ints from by rw [HX2.out]; exact hRI.out)
  have HLI := Lh HM2.out.inn.ilen
  obtain ⟨n, en⟩ : ∃ n, m2.x.ints.length = n := ⟨_, rfl⟩
  have EN := Lh en
  have hnn : n ≤ 16777216 := by rw [← en]; exact HM2.out.inn.wf.il
  clear en
  go_wp2_with fail
  refine wp_region_late (S0 := fun w' => w'.cell? ⟨b0, 1, none⟩ = some (.int .u64 (x.x.obj.version : Int))) (S := fun w' => w'.cell? ⟨g, 9, none⟩ = some (.slice m2.IA n m2.ic)) 14 15 (by kernel_rfl) rfl ⟨(HB2.out.cell 1).trans HV.out, (HM2.out.blk.cell 9).trans (by rw [← EN.out]; rfl)⟩ (fun wd hwd hH => ?_)
  have DW := Lh (show Below w2.heap.size w2 wd from by rw [hwd]; exact (Below.refl _ _).drew)
  clear hwd
  have HMD := Lh (HM2.out.later DW.out)
  have HBD := Lh (HB2.out.below DW.out HB2.out.lt)
  clear HM2 HB2
  refine wpAnyT_stay 0 (v := ?_) rfl (by kernel_rfl) (fun _ _ _ h => h) (Or.inl ⟨by rfl, ?_⟩) ⟨hH.1, fun _ => hH.2⟩ ?_
  rotate_left
  · (intro wx hx; go_simp <;> with_reducible rfl)
  try simp only [Act.put, pA9, pZ9, pS9]
  refine wpAnyT_stay 1 (v := ?_) rfl (by kernel_rfl) (fun _ _ _ h => h) (Or.inl ⟨by rfl, ?_⟩) ⟨hH.1, fun _ => hH.2⟩ ?_
  rotate_left
  · (intro wx hx; go_simp <;> with_reducible rfl)
  try simp only [Act.put, pA9, pZ9, pS9]
  refine wpAnyT_stay 2 (v := ?_) rfl (by kernel_rfl) (fun _ _ _ h => h) (Or.inl ⟨by rfl, ?_⟩) ⟨hH.1, fun _ => hH.2⟩ ?_
  rotate_left
  · (intro wx hx; go_simp <;> with_reducible rfl)
  try simp only [Act.put, pA9, pZ9, pS9]
  refine wpAnyT_stay 3 (v := ?_) rfl (by kernel_rfl) (fun _ _ _ h => h) (Or.inl ⟨by rfl, ?_⟩) ⟨hH.1, fun _ => hH.2⟩ ?_
  rotate_left
  · (intro wx hx; go_simp <;> with_reducible rfl)
  try simp only [Act.put, pA9, pZ9, pS9]
  refine wpAnyT_stay 4 (v := ?_) rfl (by kernel_rfl) (fun _ _ _ h => h) (Or.inl ⟨by rfl, ?_⟩) ⟨hH.1, fun _ => hH.2⟩ ?_
  rotate_left
  · (intro wx hx; go_simp <;> with_reducible rfl)
  try simp only [Act.put, pA9, pZ9, pS9]
  refine wpAnyT_take 5 (v := ?_) rfl (by kernel_rfl) (fun _ _ _ h => h) (Or.inl ⟨by rfl, ?_⟩) hH ?_
  rotate_left
  · (intro wx hx; go_simp <;> with_reducible rfl)
  try simp only [Act.put, pA9, pZ9, pS9]
  refine wpAnyT_stay 6 (v := ?_) rfl (by kernel_rfl) (fun _ _ _ h => h) (Or.inl ⟨by rfl, ?_⟩) ⟨hH.1, fun _ => hH.2⟩ ?_
  rotate_left
  · (intro wx hx; go_simp <;> with_reducible rfl)
  try simp only [Act.put, pA9, pZ9, pS9]
  refine wpAnyT_stay 7 (v := ?_) rfl (by kernel_rfl) (fun _ _ _ h => h) (Or.inl ⟨by rfl, ?_⟩) ⟨hH.1, fun _ => hH.2⟩ ?_
  rotate_left
  · (intro wx hx; go_simp <;> with_reducible rfl)
  try simp only [Act.put, pA9, pZ9, pS9]
  refine wpAnyT_stay 8 (v := ?_) rfl (by kernel_rfl) (fun _ _ _ h => h) (Or.inl ⟨by rfl, ?_⟩) ⟨hH.1, fun _ => hH.2⟩ ?_
  rotate_left
  · (intro wx hx; go_simp <;> with_reducible rfl)
  try simp only [Act.put, pA9, pZ9, pS9]
  refine wpAnyT_one 9 rfl (by kernel_rfl) (fun K hQ => ?_)
  go_simp
  (go_at_call 57; refine (mkItt x.x.obj.version _).mono ?_; rintro e w8 ⟨rfl, hc8, hb8⟩)
  have HC8 := Lh hc8
  have HB8 := Lh hb8
  have HM8 := Lh (HMD.out.later hb8)
  clear hc8 hb8
  refine hQ.out _ _ ?_ (fun hH9 => ?_)
  · exact ⟨((HBD.out.below HB8.out HBD.out.lt).cell 1).trans HV.out, (HM8.out.blk.cell 9).trans (by rw [← EN.out]; rfl)⟩
  clear hQ K
  try simp only [Act.put, pA9, pZ9, pS9]
  refine wpAnyT_one 10 rfl (by kernel_rfl) (fun K hQ => ?_)
  go_simp
  (go_at_call 56; refine (dropItt m2.IA n m2.ic m2.is wd.heap.size x.x.obj.version _ (Lh (by have := HM8.out.inn.rows.ints.rd; unfold MM.ints at this; rw [EN.out] at this; exact this)) (Lh (by rw [HLI.out, EN.out])) (by omega) HC8 (Lh fun _ _ => trivial) trivial (by have := HM8.out.inn.rows.ints.nc; unfold MM.ints at this; rw [EN.out] at this; exact this) HM8.out.inn.rows.ints.cm).mono ?_; rintro e w9 ⟨A9, c9, rfl, hr9, hn9, hm9, hb9, ho9⟩)
  have HR9 := Lh hr9
  have HO9 := Lh ho9
  have HN9 := Lh (And.intro hn9 hm9)
  have HM9 := Lh (HM8.out.later hb9)
  have HB89 := Lh (HB8.out.trans (hb9.mono HB8.out.size))
  have z0 : w9.cell? ⟨g, 9, none⟩ = some (.slice m2.IA n m2.ic) := (HM9.out.blk.cell 9).trans (by rw [← EN.out]; rfl)
  have z1 : w9.frozen? ⟨g, 9, none⟩ = false := HM9.out.blk.frozen 9
  clear hr9 ho9 hn9 hm9 hb9
  refine hQ.out _ _ ?_ (fun hH10 => ?_)
  · exact ⟨((HBD.out.below HB89.out HBD.out.lt).cell 1).trans HV.out, z0⟩
  clear hQ K
  try simp only [Act.put, pA9, pZ9, pS9]
  refine wpAnyT_stay 11 (v := ?_) rfl (by kernel_rfl) (fun _ _ _ h => h) (Or.inl ⟨by rfl, ?_⟩) ⟨hH10.1, fun _ => hH10.2⟩ ?_
  rotate_left
  · (intro wx hx; go_simp <;> with_reducible rfl)
  try simp only [Act.put, pA9, pZ9, pS9]
  refine wpAnyT_stay 12 (v := ?_) rfl (by kernel_rfl) (fun _ _ _ h => h) (Or.inl ⟨by rfl, ?_⟩) ⟨hH10.1, fun _ => hH10.2⟩ ?_
  rotate_left
  · (intro wx hx; go_simp <;> with_reducible rfl)
  try simp only [Act.put, pA9, pZ9, pS9]
  refine wpAnyT_stay 13 (v := ?_) rfl (by kernel_rfl) (fun _ _ _ h => h) (Or.inl ⟨by rfl, ?_⟩) ⟨hH10.1, fun _ => hH10.2⟩ ?_
  rotate_left
  · (intro wx hx; go_simp <;> with_reducible rfl)
  try simp only [Act.put, pA9, pZ9, pS9]
  refine wpAnyT_last 14 rfl (by kernel_rfl) (by decide) (fun K hQ => ?_)
  go_simp
  refine hQ.out _ _ ?_ (fun hH14 => ?_)
  · exact (((HBD.out.below HB89.out HBD.out.lt).far (Nat.ne_of_gt HGL.out) _).cell 1).trans HV.out
  clear hQ K
  try simp only [Act.put, pA9, pZ9, pS9]
  refine wpAnyT_done (by kernel_rfl) ?_ _
  obtain ⟨L9, eL9⟩ : ∃ L, dropB (fL (cmpItt x.x.obj.version) m2.is) m2.is = L := ⟨_, rfl⟩
  have hsub : ∀ i ∈ L9, i ∈ m2.is := fun i hi => by rw [← eL9] at hi; exact mem_dropB hi
  have hpos : 0 < L9.length → 0 < n := fun h => by rw [← eL9] at h; have := drop_pos h; rw [← EN.out, ← HLI.out]; exact this
  have hlen : L9.length ≤ n := by rw [← EN.out, ← HLI.out, ← eL9, dropB_len]; split <;> omega
  have hmx : L9.map (·.x) = dropR natO verI x.x.obj.version m2.x.ints := by
    rw [← eL9]; exact drop_int HMD.out.inn.is HRI2.out _
  rw [eL9] at HR9 HO9 HN9 ⊢
  have SUB := Lh hsub
  have POS := Lh hpos
  have LEN := Lh hlen
  have HMX := Lh hmx
  clear eL9 hsub hpos hlen hmx
  have GS := Lh (HM9.out.blk.set_ 9 (.slice A9 L9.length c9))
  have OS := Lh (Only.set_ w9 g 9 (.slice A9 L9.length c9))
  obtain ⟨wx, hwx⟩ : ∃ wx, w9.setCell ⟨g, 9, none⟩ (.slice A9 L9.length c9) = wx := ⟨_, rfl⟩
  rw [hwx] at GS OS ⊢
  clear hwx z0 z1 hH hH9 hH10 hH14
  have hO9 : ∀ q ∈ G, (⟨9, A9, c9, L9.length, L9.flatMap imCs⟩ : RowT).Off q := fun q hq => off_drop (n := n) (by have := (HMD.out.off q hq).ints; unfold MM.ints at this; rw [EN.out] at this; exact this) POS.out (HM8.out.lt q hq) HO9.out
  have HX := Lh (HM9.out.setI (gb_only OS.out) GS.out ((⟨HR9.out, HN9.out.1, HN9.out.2⟩ : (⟨9, A9, c9, L9.length, L9.flatMap imCs⟩ : RowT).In w9).grown (hO9 g HM9.out.mem) (gb_only OS.out)) hO9 (by have := LEN.out; omega) (fun i hi => .inl (SUB.out i hi)))
  have HGX := Lh (gb_trans (gb_trans (gb_trans HGB0.out (gb_below DW.out _)) (gb_below HB89.out _)) (gb_only OS.out))
  go_wp2_with fail
  go_end0
  refine ⟨rfl, TurnM.mk HGX.out HX.out ?_⟩
  show ({ m2.x with ints := L9.map (·.x) } : MetT) = giveUpM m.x x.x
  rw [HMX.out, HX2.out]
  rfl
set_option maxRecDepth 100000 in
set_option maxHeartbeats 8000000 in
theorem away_any (G : List Nat) (g : Nat) (m : MM) (key : List Nat) (w : World) (hM : Hid (MS G g m w)) (hk : Byt key) (hR : Hid (Ris wasO (fun x => x) m.x.wass)) (hRO : Hid (Ris bytO ObjT.key m.x.objs)) (hnd : Hid (∀ o ∈ m.x.objs, o.nodes.length ≤ 255)) (hl : m.x.wass.length + 255 ≤ 33554432) :
    Calls Tryz.prog 58 #[.pointer (some ⟨g, 0, none⟩), .string (strOf key)] w fun e w' => e = .returned (.bool (awayM m.x key).2) ∧ TurnM G g (awayM m.x key).1 w w' := by
  have HLI := Lh hM.out.inn.olen
  obtain ⟨n, en⟩ : ∃ n, m.x.objs.length = n := ⟨_, rfl⟩
  have EN := Lh en
  have hn : n ≤ 16777216 := by rw [← en]; exact hM.out.inn.wf.ol
  have hfm := find_mm (o := bytO) (key := ObjT.key) hM.out.inn.os hRO.out key
  obtain ⟨p, ep⟩ : ∃ p, bsP (fL (cmpO bytO (fun i : OM => i.x.key) key) m.os) m.os.length = p := ⟨_, rfl⟩
  obtain ⟨b, eb⟩ : ∃ b, bsB (fL (cmpO bytO (fun i : OM => i.x.key) key) m.os) m.os.length = b := ⟨_, rfl⟩
  have HKY := Lh hM.out.inn.okeys
  have HFW := Lh (fun W kb h1 h2 => findObj m.OA n m.oc m.os kb key W h1 (Lh (by rw [HLI.out, en])) (by omega) h2 HKY hk)
  rw [show cmpObj key = cmpO bytO (fun i : OM => i.x.key) key from rfl, show n = m.os.length from by rw [HLI.out, en]] at HFW
  rw [ep, eb] at HFW
  simp only [ep, eb] at hfm
  have HFM := Lh hfm
  rw [show m.os.length = n from by rw [HLI.out, en]] at HFW
  have HGL := Lh hM.out.blk.lt
  clear hfm ep eb en
  go_enter Tryz.func58, Tryz.ntmps58
  go_wp2_with fail
  refine wp_region_late (S0 := fun w' => w'.cell? ⟨g, 8, none⟩ = some (.slice m.OA n m.oc)) (S := fun _ => True) 12 13 (by kernel_rfl) rfl ⟨(hM.out.blk.cell 8).trans (by rw [← EN.out]; rfl), trivial⟩ (fun wd hwd hH => ?_)
  have DW := Lh (show Below w.heap.size w wd from by rw [hwd]; exact (Below.refl _ _).drew)
  clear hwd
  have HMD := Lh (hM.out.later DW.out)
  clear hM
  refine wpAnyT_stay 0 (v := ?_) rfl (by kernel_rfl) (fun _ _ _ h => h) (Or.inl ⟨by rfl, ?_⟩) ⟨hH.1, fun _ => hH.2⟩ ?_
  rotate_left
  · (intro wx hx; go_simp <;> with_reducible rfl)
  try simp only [Act.put, pA9, pZ9, pS9]
  refine wpAnyT_stay 1 (v := ?_) rfl (by kernel_rfl) (fun _ _ _ h => h) (Or.inl ⟨by rfl, ?_⟩) ⟨hH.1, fun _ => hH.2⟩ ?_
  rotate_left
  · (intro wx hx; go_simp <;> with_reducible rfl)
  try simp only [Act.put, pA9, pZ9, pS9]
  refine wpAnyT_stay 2 (v := ?_) rfl (by kernel_rfl) (fun _ _ _ h => h) (Or.inl ⟨by rfl, ?_⟩) ⟨hH.1, fun _ => hH.2⟩ ?_
  rotate_left
  · (intro wx hx; go_simp <;> with_reducible rfl)
  try simp only [Act.put, pA9, pZ9, pS9]
  refine wpAnyT_stay 3 (v := ?_) rfl (by kernel_rfl) (fun _ _ _ h => h) (Or.inl ⟨by rfl, ?_⟩) ⟨hH.1, fun _ => hH.2⟩ ?_
  rotate_left
  · (intro wx hx; go_simp <;> with_reducible rfl)
  try simp only [Act.put, pA9, pZ9, pS9]
  refine wpAnyT_stay 4 (v := ?_) rfl (by kernel_rfl) (fun _ _ _ h => h) (Or.inl ⟨by rfl, ?_⟩) ⟨hH.1, fun _ => hH.2⟩ ?_
  rotate_left
  · (intro wx hx; go_simp <;> with_reducible rfl)
  try simp only [Act.put, pA9, pZ9, pS9]
  refine wpAnyT_stay 5 (v := ?_) rfl (by kernel_rfl) (fun _ _ _ h => h) (Or.inl ⟨by rfl, ?_⟩) ⟨hH.1, fun _ => hH.2⟩ ?_
  rotate_left
  · (intro wx hx; go_simp <;> with_reducible rfl)
  try simp only [Act.put, pA9, pZ9, pS9]
  refine wpAnyT_one 6 rfl (by kernel_rfl) (fun K hQ => ?_)
  go_simp
  (go_at_call 33; refine (mkObj key _).mono ?_; rintro e w8 ⟨rfl, hc8, hb8⟩)
  have HC8 := Lh hc8
  have HB8 := Lh hb8
  have HM8 := Lh (HMD.out.later hb8)
  clear hc8 hb8
  refine hQ.out _ _ ?_ (fun hH6 => ?_)
  · exact ⟨(HM8.out.blk.cell 8).trans (by rw [← EN.out]; rfl), trivial⟩
  clear hQ K
  try simp only [Act.put, pA9, pZ9, pS9]
  refine wpAnyT_one 7 rfl (by kernel_rfl) (fun K hQ => ?_)
  go_simp
  (go_at_call 32; refine (HFW.out _ wd.heap.size (Lh (by have := HM8.out.inn.rows.objs.rd; unfold MM.objs at this; rw [EN.out] at this; exact this)) HC8).mono ?_; rintro e w9 ⟨rfl, hb9⟩)
  have HB9 := Lh hb9
  have HM9 := Lh (HM8.out.later hb9)
  have HB89 := Lh (HB8.out.trans (hb9.mono HB8.out.size))
  clear hb9
  refine hQ.out _ _ ?_ (fun hH7 => ?_)
  · exact ⟨(HM9.out.blk.cell 8).trans (by rw [← EN.out]; rfl), trivial⟩
  clear hQ K
  try simp only [Act.put, pA9, pZ9, pS9]
  refine wpAnyT_stay 8 (v := ?_) rfl (by kernel_rfl) (fun _ _ _ h => h) (Or.inl ⟨by rfl, ?_⟩) ⟨hH7.1, fun _ => hH7.2⟩ ?_
  rotate_left
  · (intro wx hx; go_simp <;> with_reducible rfl)
  try simp only [Act.put, pA9, pZ9, pS9]
  refine wpAnyT_stay 9 (v := ?_) rfl (by kernel_rfl) (fun _ _ _ h => h) (Or.inl ⟨by rfl, ?_⟩) ⟨hH7.1, fun _ => hH7.2⟩ ?_
  rotate_left
  · (intro wx hx; go_simp <;> with_reducible rfl)
  try simp only [Act.put, pA9, pZ9, pS9]
  refine wpAnyT_stay 10 (v := ?_) rfl (by kernel_rfl) (fun _ _ _ h => h) (Or.inl ⟨by rfl, ?_⟩) ⟨hH7.1, fun _ => hH7.2⟩ ?_
  rotate_left
  · (intro wx hx; go_simp <;> with_reducible rfl)
  try simp only [Act.put, pA9, pZ9, pS9]
  refine wpAnyT_stay 11 (v := ?_) rfl (by kernel_rfl) (fun _ _ _ h => h) (Or.inl ⟨by rfl, ?_⟩) ⟨hH7.1, fun _ => hH7.2⟩ ?_
  rotate_left
  · (intro wx hx; go_simp <;> with_reducible rfl)
  try simp only [Act.put, pA9, pZ9, pS9]
  refine wpAnyT_last 12 rfl (by kernel_rfl) (by decide) (fun K hQ => ?_)
  go_simp
  refine hQ.out _ _ ?_ (fun hH12 => ?_)
  · exact hH7.1
  clear hQ K
  try simp only [Act.put, pA9, pZ9, pS9]
  refine wpAnyT_done (by kernel_rfl) ?_ _
  clear hH hH6 hH7 hH12
  have HBF := Lh (DW.out.trans (HB89.out.mono DW.out.size))
  clear HMD HM8 HC8 DW HB8 HB89 HB9 HFW
  cases b with
  | false =>
    have hf : findR bytO ObjT.key key m.x.objs = none := by
      rcases HFM.out with ⟨h1, _⟩ | ⟨_, h1⟩
      · cases h1
      · exact h1
    have HF := Lh hf
    clear hf HFM
    go_wp2_with fail
    go_ret
    have e1 : awayM m.x key = (m.x, false) := by unfold awayM; rw [HF.out]
    rw [e1]
    exact ⟨rfl, gb_below HBF.out _, m, HM9.out, rfl⟩
  | true =>
    obtain ⟨o, hpi, hf⟩ : ∃ o, m.os[p]? = some o ∧ findR bytO ObjT.key key m.x.objs = some o.x := by
      rcases HFM.out with ⟨_, h1⟩ | ⟨h1, _⟩
      · exact h1
      · cases h1
    obtain ⟨hp, ei⟩ := List.getElem?_eq_some_iff.1 hpi
    have hpn : p < n := by rw [← EN.out, ← HLI.out]; exact hp
    obtain ⟨ia, eia, iab, icc⟩ := elem_cells (cells := omCs) (K := 7) (fun _ => rfl) HM9.out.inn.rows.objs.rd hp (by show 0 < m.x.objs.length; rw [EN.out]; omega)
    have hmem : m.os[p] ∈ m.os := List.getElem_mem hp
    rw [ei] at icc hmem
    have c9 : w9.cell? ⟨g, 8, none⟩ = some (.slice (some ia) n m.oc) := (HM9.out.blk.cell 8).trans (by rw [← EN.out, ← show m.OA = some ia from eia]; rfl)
    have ICC := Lh icc
    have HF := Lh (And.intro hmem hf)
    have hob : o.x.nodes.length ≤ 255 := hnd.out o.x (by rw [← HM9.out.inn.os]; exact List.mem_map.2 ⟨o, hmem, rfl⟩)
    have HW := Lh (fun W (h : Hid (MS G g m W)) => waste_any G g m o W h (Lh (h.out.inn.rows.os o hmem)) (Lh ((h.out.off g h.out.mem).os o hmem)) hob hR (by omega))
    have HOCS := Lh (show (omCs o).toArray = oA o from rfl)
    clear icc hf hmem ei eia iab hp hpi HFM hob
    go_wp2_with (first
      | (refine wpl_load_at rfl 58 (.tmp 26) rfl (ia.add (p * 7)) (omCs o) _ rfl ICC.out Tryz.underlying58 rfl rfl ?_; rw [HOCS.out])
      | (go_at_call 65; refine (HW.out _ HM9).mono ?_; rintro e w2 ⟨rfl, hgb, A2, c2, hm2⟩; have HGB := Lh hgb; have HM2 := Lh hm2; clear hgb hm2))
    obtain ⟨m2, em2⟩ : ∃ m2, m.setW (wasteF m.x.wass o.x) A2 c2 = m2 := ⟨_, rfl⟩
    have HX2 := Lh (show m2.x = { m.x with wass := wasteF m.x.wass o.x } from by rw [← em2]; rfl)
    rw [em2] at HM2
    have HRI2 := Lh (show Ris bytO ObjT.key m2.x.objs from by rw [HX2.out]; exact hRO.out)
    have HL2 := Lh HM2.out.inn.olen
    have HK2 := Lh HM2.out.inn.okeys
    have EN2 := Lh (show m2.x.objs.length = n from by rw [HX2.out]; exact EN.out)
    have HGB0 := Lh (gb_trans (gb_below HBF.out _) HGB.out)
    clear em2 HW HGB HM9 c9 HBF
    refine wp_region_late (S0 := fun _ => True) (S := fun w' => w'.cell? ⟨g, 8, none⟩ = some (.slice m2.OA n m2.oc)) 12 13 (by kernel_rfl) rfl ⟨trivial, (HM2.out.blk.cell 8).trans (by rw [← EN2.out]; rfl)⟩ (fun wz hwz hZ => ?_)
    have DW := Lh (show Below w2.heap.size w2 wz from by rw [hwz]; exact (Below.refl _ _).drew)
    clear hwz
    have HMD := Lh (HM2.out.later DW.out)
    clear HM2
    refine wpAnyT_stay 0 (v := ?_) rfl (by kernel_rfl) (fun _ _ _ h => h) (Or.inl ⟨by rfl, ?_⟩) ⟨hZ.1, fun _ => hZ.2⟩ ?_
    rotate_left
    · (intro wx hx; go_simp <;> with_reducible rfl)
    try simp only [Act.put, pA9, pZ9, pS9]
    refine wpAnyT_stay 1 (v := ?_) rfl (by kernel_rfl) (fun _ _ _ h => h) (Or.inl ⟨by rfl, ?_⟩) ⟨hZ.1, fun _ => hZ.2⟩ ?_
    rotate_left
    · (intro wx hx; go_simp <;> with_reducible rfl)
    try simp only [Act.put, pA9, pZ9, pS9]
    refine wpAnyT_stay 2 (v := ?_) rfl (by kernel_rfl) (fun _ _ _ h => h) (Or.inl ⟨by rfl, ?_⟩) ⟨hZ.1, fun _ => hZ.2⟩ ?_
    rotate_left
    · (intro wx hx; go_simp <;> with_reducible rfl)
    try simp only [Act.put, pA9, pZ9, pS9]
    refine wpAnyT_stay 3 (v := ?_) rfl (by kernel_rfl) (fun _ _ _ h => h) (Or.inl ⟨by rfl, ?_⟩) ⟨hZ.1, fun _ => hZ.2⟩ ?_
    rotate_left
    · (intro wx hx; go_simp <;> with_reducible rfl)
    try simp only [Act.put, pA9, pZ9, pS9]
    refine wpAnyT_stay 4 (v := ?_) rfl (by kernel_rfl) (fun _ _ _ h => h) (Or.inl ⟨by rfl, ?_⟩) ⟨hZ.1, fun _ => hZ.2⟩ ?_
    rotate_left
    · (intro wx hx; go_simp <;> with_reducible rfl)
    try simp only [Act.put, pA9, pZ9, pS9]
    refine wpAnyT_take 5 (v := ?_) rfl (by kernel_rfl) (fun _ _ _ h => h) (Or.inl ⟨by rfl, ?_⟩) hZ ?_
    rotate_left
    · (intro wx hx; go_simp <;> with_reducible rfl)
    try simp only [Act.put, pA9, pZ9, pS9]
    refine wpAnyT_stay 6 (v := ?_) rfl (by kernel_rfl) (fun _ _ _ h => h) (Or.inl ⟨by rfl, ?_⟩) ⟨hZ.1, fun _ => hZ.2⟩ ?_
    rotate_left
    · (intro wx hx; go_simp <;> with_reducible rfl)
    try simp only [Act.put, pA9, pZ9, pS9]
    refine wpAnyT_one 7 rfl (by kernel_rfl) (fun K hQ => ?_)
    go_simp
    (go_at_call 33; refine (mkObj key _).mono ?_; rintro e w8 ⟨rfl, hc8, hb8⟩)
    have HC8 := Lh hc8
    have HB8 := Lh hb8
    have HM8 := Lh (HMD.out.later hb8)
    clear hc8 hb8
    refine hQ.out _ _ ?_ (fun hZ7 => ?_)
    · exact ⟨trivial, (HM8.out.blk.cell 8).trans (by rw [← EN2.out]; rfl)⟩
    clear hQ K
    try simp only [Act.put, pA9, pZ9, pS9]
    refine wpAnyT_one 8 rfl (by kernel_rfl) (fun K hQ => ?_)
    go_simp
    (go_at_call 92; refine (dropObj m2.OA n m2.oc m2.os wz.heap.size key _ (Lh (by have := HM8.out.inn.rows.objs.rd; unfold MM.objs at this; rw [EN2.out] at this; exact this)) (Lh (by rw [HL2.out, EN2.out])) (by omega) HC8 HK2 hk (by have := HM8.out.inn.rows.objs.nc; unfold MM.objs at this; rw [EN2.out] at this; exact this) HM8.out.inn.rows.objs.cm).mono ?_; rintro e w9b ⟨A9, c9, rfl, hr9, hn9, hm9, hb9, ho9⟩)
    have HR9 := Lh hr9
    have HO9 := Lh ho9
    have HN9 := Lh (And.intro hn9 hm9)
    have HM9 := Lh (HM8.out.later hb9)
    have HB89 := Lh (HB8.out.trans (hb9.mono HB8.out.size))
    have z0 : w9b.cell? ⟨g, 8, none⟩ = some (.slice m2.OA n m2.oc) := (HM9.out.blk.cell 8).trans (by rw [← EN2.out]; rfl)
    have z1 : w9b.frozen? ⟨g, 8, none⟩ = false := HM9.out.blk.frozen 8
    clear hr9 ho9 hn9 hm9 hb9
    refine hQ.out _ _ ?_ (fun hZ8 => ?_)
    · exact ⟨trivial, z0⟩
    clear hQ K
    try simp only [Act.put, pA9, pZ9, pS9]
    refine wpAnyT_stay 9 (v := ?_) rfl (by kernel_rfl) (fun _ _ _ h => h) (Or.inl ⟨by rfl, ?_⟩) ⟨hZ8.1, fun _ => hZ8.2⟩ ?_
    rotate_left
    · (intro wx hx; go_simp <;> with_reducible rfl)
    try simp only [Act.put, pA9, pZ9, pS9]
    refine wpAnyT_stay 10 (v := ?_) rfl (by kernel_rfl) (fun _ _ _ h => h) (Or.inl ⟨by rfl, ?_⟩) ⟨hZ8.1, fun _ => hZ8.2⟩ ?_
    rotate_left
    · (intro wx hx; go_simp <;> with_reducible rfl)
    try simp only [Act.put, pA9, pZ9, pS9]
    refine wpAnyT_stay 11 (v := ?_) rfl (by kernel_rfl) (fun _ _ _ h => h) (Or.inl ⟨by rfl, ?_⟩) ⟨hZ8.1, fun _ => hZ8.2⟩ ?_
    rotate_left
    · (intro wx hx; go_simp <;> with_reducible rfl)
    try simp only [Act.put, pA9, pZ9, pS9]
    refine wpAnyT_last 12 rfl (by kernel_rfl) (by decide) (fun K hQ => ?_)
    go_simp
    refine hQ.out _ _ ?_ (fun hZ12 => ?_)
    · trivial
    clear hQ K
    try simp only [Act.put, pA9, pZ9, pS9]
    refine wpAnyT_done (by kernel_rfl) ?_ _
    obtain ⟨L9, eL9⟩ : ∃ L, dropB (fL (cmpObj key) m2.os) m2.os = L := ⟨_, rfl⟩
    have hsub : ∀ i ∈ L9, i ∈ m2.os := fun i hi => by rw [← eL9] at hi; exact mem_dropB hi
    have hpos : 0 < L9.length → 0 < n := fun h => by omega
    have hlen : L9.length ≤ n := by rw [← EN2.out, ← HL2.out, ← eL9, dropB_len]; split <;> omega
    have hmx : L9.map (·.x) = dropR bytO ObjT.key key m2.x.objs := by
      rw [← eL9]; exact drop_obj HMD.out.inn.os HRI2.out key
    rw [eL9] at HR9 HO9 HN9 ⊢
    have SUB := Lh hsub
    have POS := Lh hpos
    have LEN := Lh hlen
    have HMX := Lh hmx
    clear eL9 hsub hpos hlen hmx
    have GS := Lh (HM9.out.blk.set_ 8 (.slice A9 L9.length c9))
    have OS := Lh (Only.set_ w9b g 8 (.slice A9 L9.length c9))
    obtain ⟨wx, hwx⟩ : ∃ wx, w9b.setCell ⟨g, 8, none⟩ (.slice A9 L9.length c9) = wx := ⟨_, rfl⟩
    rw [hwx] at GS OS ⊢
    clear hwx z0 z1 hZ hZ7 hZ8 hZ12
    have hO9 : ∀ q ∈ G, (⟨7, A9, c9, L9.length, L9.flatMap omCs⟩ : RowT).Off q := fun q hq => off_drop (n := n) (by have := (HMD.out.off q hq).objs; unfold MM.objs at this; rw [EN2.out] at this; exact this) POS.out (HM8.out.lt q hq) HO9.out
    have HX := Lh (HM9.out.setO (gb_only OS.out) GS.out ((⟨HR9.out, HN9.out.1, HN9.out.2⟩ : (⟨7, A9, c9, L9.length, L9.flatMap omCs⟩ : RowT).In w9b).grown (hO9 g HM9.out.mem) (gb_only OS.out)) hO9 (by have := LEN.out; omega) (fun i hi => .inl (SUB.out i hi)))
    have HGX := Lh (gb_trans (gb_trans (gb_trans HGB0.out (gb_below DW.out _)) (gb_below HB89.out _)) (gb_only OS.out))
    go_wp2_with fail
    go_ret
    have e1 : awayM m.x key = ({ m.x with wass := wasteF m.x.wass o.x, objs := dropR bytO ObjT.key key m.x.objs }, true) := by unfold awayM; rw [HF.out.2]
    rw [e1]
    refine ⟨rfl, TurnM.mk HGX.out HX.out ?_⟩
    show ({ m2.x with objs := L9.map (·.x) } : MetT) = _
    rw [HMX.out, HX2.out]
end Go.Proofs.YtdoneomahlfkbaaGreat
end
section
namespace Go.Proofs.YtdoneomahlfkbaaGreat
open Go.RowKit OctMath
set_option linter.unusedVariables false
set_option linter.unusedSimpArgs false
def CapI64 (w : World) (kb : Nat) (k : Int) : Prop := Blk w kb 3 #[.int .i64 k]
def cmpI64 (k : Int) (m : Int) : Int := cmpV (ltI (m) k) (ltI k (m))
set_option maxRecDepth 100000 in
theorem howI64 (m : Int) (kb : Nat) (k : Int) (w : World) (hc : Hid (CapI64 w kb k)) (hm : True) (hk1 : True) :
    Calls Tryz.prog 101 #[.int .i64 m, .pointer (some ⟨kb, 0, none⟩)] w fun e w' => e = .returned (.int .i64 (cmpI64 k m)) ∧ Below w.heap.size w w' := by
  have ck := hc.out.cell 0
  have hlt := hc.out.lt
  simp only [List.getElem?_toArray, List.getElem?_cons_zero] at ck
  go_enter Tryz.func101, Tryz.ntmps101
  go_wp2_with (go_at_call 46; refine (cmpI _ _ _).mono ?_; rintro e w' ⟨rfl, rfl⟩)
  go_ret
  exact ⟨rfl, Below.refl _ _⟩
def HbI64 (w : World) (hb kb : Nat) : Prop := Blk w hb 123 #[.func (.func 101) #[] #[.pointer (some ⟨kb, 0, none⟩)]]
set_option maxRecDepth 100000 in
theorem fnI64 (m : Int) (hb kb : Nat) (k : Int) (w : World) (hc : Hid (CapI64 w kb k)) (hh : Hid (HbI64 w hb kb)) (hm : True) (hk1 : True) :
    Calls Tryz.prog 132 #[.int .i64 m, .int .i64 0, .pointer (some ⟨hb, 0, none⟩)] w fun e w' => e = .returned (.int .i64 (cmpI64 k m)) ∧ Below w.heap.size w w' := by
  have ck := hh.out.cell 0
  have hlt := hh.out.lt
  simp only [List.getElem?_toArray, List.getElem?_cons_zero] at ck
  go_enter Tryz.func132, Tryz.ntmps132
  go_wp2_with (go_at_call 101; refine (howI64 m kb k _ hc hm hk1).mono ?_; rintro e w' ⟨rfl, hb'⟩)
  have HB := Lh hb'
  clear hb'
  go_ret
  exact ⟨rfl, HB.out⟩
set_option maxRecDepth 100000 in
set_option maxHeartbeats 4000000 in
theorem bsI64 (A : Option Addr) (n cap : Nat) (ms : List Int) (hb kb : Nat) (k : Int) (w : World) (hr : Hid (Reads w w.heap.size 1 A n (ms.flatMap i1))) (hl : Hid (ms.length = n)) (hn : n ≤ 67108864) (hc : Hid (CapI64 w kb k)) (hh : Hid (HbI64 w hb kb)) (hm : Hid (∀ m ∈ ms, True)) (hk1 : True) :
    Calls Tryz.prog 131 #[.slice A n cap, .int .i64 0, .func (.func 132) #[] #[.pointer (some ⟨hb, 0, none⟩)]] w fun e w' => e = .returned (.tuple #[.int .i64 (bsP (fL (cmpI64 k) ms) n : Nat), .bool (bsB (fL (cmpI64 k) ms) n)]) ∧ Below w.heap.size w w' := by
  have hll : ∀ m, (i1 m).length = 1 := fun _ => rfl
  have HLL := Lh hll
  clear hll
  have HCL := Lh hc.out.lt
  have HHL := Lh hh.out.lt
  obtain ⟨f, ef⟩ : ∃ f, fL (cmpI64 k) ms = f := ⟨_, rfl⟩
  have EF := Lh ef
  rw [ef]
  clear ef
  go_enter Tryz.func131, Tryz.ntmps131
  go_wp2_with fail
  go_loopw [9, 10] (fun vi vj wr => ∃ lo hi : Nat, lo ≤ n ∧ hi ≤ n ∧ vi = .int .i64 lo ∧ vj = .int .i64 hi ∧ Hid (BsI f n lo hi) ∧ Hid (Below w.heap.size w wr)) (fun vi vj _ => (intOf vj - intOf vi).toNat)
  case atStart => exact ⟨0, n, by omega, by omega, rfl, rfl, Lh (BsI.start f n), Lh (Below.refl _ _)⟩
  case round =>
    obtain ⟨lo, hi, hlo, hhi, rfl, rfl, HI, HB⟩ := hrel
    by_cases hlt : lo < hi
    · have hcv : IntKind.u64.wrap ((lo : Int) + (hi : Int)) = (lo : Int) + (hi : Int) := by rw [IntKind.wrap_u64]; omega
      obtain ⟨h, eh⟩ : ∃ h, (lo + hi) / 2 = h := ⟨_, rfl⟩
      have EH := Lh eh
      have hhn : h < n := by omega
      have hd : ((lo : Int) + (hi : Int)) / 2 = (h : Int) := by omega
      clear eh
      have hmsl : h < ms.length := by have := hl.out; omega
      obtain ⟨ad, rfl, hadb, hcell⟩ := elem_cells HLL.out hr.out hmsl (by omega)
      have hfh : f h = cmpI64 k ms[h] := by rw [← EF.out]; exact fL_at _ hmsl
      have hwm := hm.out ms[h] (List.getElem_mem hmsl)
      obtain ⟨m, em⟩ : ∃ m, ms[h] = m := ⟨_, rfl⟩
      rw [em] at hcell hfh
      try rw [em] at hwm
      clear em
      have HAD := Lh hadb
      have HC1 := Lh (fun j v hv => (HB.out.cell (p := (ad.add (h * 1)).add j) (by rw [block_of_add, block_of_add]; exact hadb)).trans (hcell j v hv))
      have HF := Lh hfh
      have HWM := Lh hwm
      have HN := Lh (fun W a b => fnI64 m hb kb k W a b hwm hk1)
      have HCC := Lh (Blk.below hc.out HB.out HCL.out)
      have HHH := Lh (Blk.below hh.out HB.out HHL.out)
      clear hcell hfh hwm hadb hmsl
      have HC2 : wr.cell? (ad.add h) = some (.int .i64 m) := by have h := HC1.out 0 _ rfl; rw [add_of_add] at h; simpa [iv] using h
      by_cases hz : f h < 0
      · have hz2 : decide (cmpI64 k m < 0) = true := by rw [← HF.out]; exact decide_eq_true hz
        have HI2 := Lh (HI.out.up hlt (by rw [EH.out]; exact hz))
        rw [EH.out] at HI2
        clear hz
        go_wp2_with (first
          | (go_at_call 132; refine (HN.out _ HCC HHH).mono ?_; rintro e w' ⟨rfl, hb'⟩))
        have HB2 := Lh (HB.out.trans (hb'.mono HB.out.size))
        clear hb'
        go_wp2_with fail
        exact ⟨⟨h + 1, hi, by omega, hhi, by go_num, rfl, HI2, HB2⟩, by simp [intOf]; omega⟩
      · have hz2 : decide (cmpI64 k m < 0) = false := by rw [← HF.out]; exact decide_eq_false hz
        have HI2 := Lh (HI.out.down hlt (by rw [EH.out]; exact hz))
        rw [EH.out] at HI2
        clear hz
        go_wp2_with (first
          | (go_at_call 132; refine (HN.out _ HCC HHH).mono ?_; rintro e w' ⟨rfl, hb'⟩))
        have HB2 := Lh (HB.out.trans (hb'.mono HB.out.size))
        clear hb'
        go_wp2_with fail
        exact ⟨⟨lo, h, hlo, by omega, rfl, by go_num, HI2, HB2⟩, by simp [intOf]; omega⟩
    · have hp : bsP f n = lo := HI.out.done hlt
      by_cases hln : lo < n
      · have hmsl : lo < ms.length := by have := hl.out; omega
        obtain ⟨ad, rfl, hadb, hcell⟩ := elem_cells HLL.out hr.out hmsl (by omega)
        have hfh : f lo = cmpI64 k ms[lo] := by rw [← EF.out]; exact fL_at _ hmsl
        have hwm := hm.out ms[lo] (List.getElem_mem hmsl)
        obtain ⟨m, em⟩ : ∃ m, ms[lo] = m := ⟨_, rfl⟩
        rw [em] at hcell hfh
        try rw [em] at hwm
        clear em
        have HC1 := Lh (fun j v hv => (HB.out.cell (p := (ad.add (lo * 1)).add j) (by rw [block_of_add, block_of_add]; exact hadb)).trans (hcell j v hv))
        have HN := Lh (fun W a b => fnI64 m hb kb k W a b hwm hk1)
        have HCC := Lh (Blk.below hc.out HB.out HCL.out)
        have HHH := Lh (Blk.below hh.out HB.out HHL.out)
        have HC2 : wr.cell? (ad.add lo) = some (.int .i64 m) := by have h := HC1.out 0 _ rfl; rw [add_of_add] at h; simpa [iv] using h
        have hbf : bsB f n = (cmpI64 k m == 0) := by unfold bsB; rw [hp, decide_eq_true hln, hfh]; rfl
        have HP := Lh (And.intro hp hbf)
        have d1 : decide (lo < n) = true := decide_eq_true hln
        obtain ⟨z, ez⟩ : ∃ z, cmpI64 k m = z := ⟨_, rfl⟩
        rw [ez] at HP HN
        clear hcell hfh hwm hadb hmsl hp hbf ez
        cases e0 : z == 0
        all_goals
          rw [e0] at HP
          go_wp2_with (first
            | (go_at_call 132; refine (HN.out _ HCC HHH).mono ?_; rintro e w' ⟨rfl, hb'⟩))
          have HB2 := Lh (HB.out.trans (hb'.mono HB.out.size))
          clear hb'
          go_wp2_with fail
          go_ret2
          exact ⟨by rw [HP.out.1, HP.out.2]; rfl, HB2.out⟩
      · have hbf : bsB f n = false := by unfold bsB; rw [hp, decide_eq_false hln]; rfl
        have HP := Lh (And.intro hp hbf)
        clear hp hbf
        go_wp2_with fail
        go_ret2
        exact ⟨by rw [HP.out.1, HP.out.2]; rfl, HB.out⟩
set_option maxRecDepth 100000 in
theorem mkI64 (k : Int) (w : World) : Calls Tryz.prog 69 #[.int .i64 k] w fun e w' => e = .returned (.func (.func 101) #[] #[.pointer (some ⟨w.heap.size, 0, none⟩)]) ∧ CapI64 w' w.heap.size k ∧ Below w.heap.size w w' := by
  go_enter Tryz.func69, Tryz.ntmps69
  go_wp2
  go_ret
  exact ⟨rfl, Blk.new w _ _, (Below.refl _ _).alloc (Nat.le_refl _) _⟩
set_option maxRecDepth 100000 in
set_option maxHeartbeats 1000000 in
theorem findI64 (A : Option Addr) (n cap : Nat) (ms : List Int) (kb : Nat) (k : Int) (w : World) (hr : Hid (Reads w w.heap.size 1 A n (ms.flatMap i1))) (hl : Hid (ms.length = n)) (hn : n ≤ 67108864) (hc : Hid (CapI64 w kb k)) (hm : Hid (∀ m ∈ ms, True)) (hk1 : True) :
    Calls Tryz.prog 99 #[.slice A n cap, .func (.func 101) #[] #[.pointer (some ⟨kb, 0, none⟩)]] w fun e w' => e = .returned (.tuple #[.int .i64 (bsP (fL (cmpI64 k) ms) n : Nat), .bool (bsB (fL (cmpI64 k) ms) n)]) ∧ Below w.heap.size w w' := by
  have HR := Lh ((hr.out.alloc (Nat.le_refl _) (.cells #[.func (.func 101) #[] #[.pointer (some ⟨kb, 0, none⟩)]] 123)).more (B' := (w.alloc (.cells #[.func (.func 101) #[] #[.pointer (some ⟨kb, 0, none⟩)]] 123)).heap.size) (by simp))
  have HC : Hid (CapI64 _ kb k) := Lh (Blk.alloc (show Blk w kb 3 #[.int .i64 k] from hc.out) (.cells #[.func (.func 101) #[] #[.pointer (some ⟨kb, 0, none⟩)]] 123))
  have HH := Lh (Blk.new w 123 #[.func (.func 101) #[] #[.pointer (some ⟨kb, 0, none⟩)]])
  have HB := Lh (bsI64 A n cap ms w.heap.size kb k _ HR hl hn HC HH hm hk1)
  go_enter Tryz.func99, Tryz.ntmps99
  go_wp2_with (refine HB.out.mono ?_; rintro e w' ⟨rfl, hb'⟩)
  have HB2 := Lh hb'
  clear hb'
  go_ret2
  exact ⟨rfl, ((Below.refl _ _).alloc (Nat.le_refl _) _).trans (HB2.out.mono (by simp))⟩
end Go.Proofs.YtdoneomahlfkbaaGreat
end
