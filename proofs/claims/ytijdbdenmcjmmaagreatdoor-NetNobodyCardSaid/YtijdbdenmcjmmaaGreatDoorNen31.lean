/-
  A NET THAT WAS MADE: its first frame taken; none taken. (printed by gen_nt5.py). (joined out of NtE by shake.py)
-/
import Derived.Test.YtijdbdenmcjmmaaGreatDoorNen30
section
namespace Go.Proofs.YtijdbdenmcjmmaaGreatDoor
open Go.RowKit OctMath
set_option linter.unusedVariables false
set_option linter.unusedSimpArgs false
set_option maxRecDepth 100000 in
set_option maxHeartbeats 4000000 in
theorem take_out (b0 : Nat) (w : World) (g : Nat) (fA : Option Addr) (fn fc : Nat) (sA : Option Addr) (sc : Nat) (F : List Value) (S : List (Int × Int)) (t1 t2 t3 : Int) (HN : Hid (NS b0 w g fA fn fc sA sc F S t1 t2 t3)) (i : Nat) (hi : fn ≤ i) (hi2 : i < 1000000) : Calls Tryz.prog 4 #[.pointer (some ⟨g, 0, none⟩), .int .i64 i] w fun e w' => e = .returned (.tuple #[.agg msgZ, .int .i64 160]) ∧ Below w.heap.size w w' := by
  have HPK := Lh (fun W (k : Below w.heap.size w W) => peek_out b0 W g fA fn fc sA sc F S t1 t2 t3 (Lh (HN.out.later k)) i hi hi2)
  obtain ⟨w1, ew⟩ : ∃ w1, w.alloc (.cells msgZ 38) = w1 := ⟨_, rfl⟩
  have hb1 : Below w.heap.size w (w.alloc (.cells msgZ 38)) := (Below.refl _ _).alloc (Nat.le_refl _) _
  have hz := Blk.new w 38 msgZ
  rw [ew] at hb1 hz
  have ew2 : w.alloc (.cells #[.int .i64 0, .int .i64 0, .int .i64 0, .int .u64 0, .int .u64 0, .int .u64 0, .int .u64 0, .int .u64 0, .bool false, .bool false, .slice none 0 0, .slice none 0 0, .slice none 0 0, .int .u64 0, .int .i64 0, .int .u64 0, .int .i64 0, .int .i64 0, .int .i64 0, .int .u32 0, .slice none 0 0, .int .u64 0, .int .u64 0, .int .i64 0, .string ⟨#[]⟩, .int .i64 0, .slice none 0 0] 38) = w1 := ew
  have HB1 := Lh hb1
  have HZ := Lh hz
  obtain ⟨b, eb⟩ : ∃ b, w.heap.size = b := ⟨_, rfl⟩
  have EB := Lh eb
  rw [eb] at HZ
  clear hb1 hz ew HN hi hi2
  go_enter Tryz.func4, Tryz.ntmps4
  go_wp2_with (first
    | rw [ew2]
    | rw [eb]
    | (go_at_call 5; refine (HPK.out w1 HB1.out).mono ?_; rintro e w2 ⟨rfl, hb2⟩
       have HB2 := Lh hb2
       have HZ2 := Lh (HZ.out.below hb2 HZ.out.lt)
       have HN2 := Lh (Blk.new w2 38 msgZ)
       have HZ2a := Lh (HZ2.out.alloc (.cells msgZ 38))
       have HBa := Lh ((Below.refl w2.heap.size w2).alloc (Nat.le_refl _) (.cells msgZ 38))
       clear hb2)
    | (refine wpl_store_blk rfl 38 (.tmp 6) (.tmp 12) rfl w2.heap.size 38 msgZ msgZ rfl rfl HN2.out rfl sizeMsg rfl ?_; intro w3 hB3 hO3)
    | (refine wpl_load_blk rfl 38 (.tmp 6) rfl w2.heap.size 38 msgZ _ rfl hB3.out Tryz.underlying38 rfl sizeMsg ?_)
    | (refine wpl_store_blk rfl 38 (.tmp 4) (.tmp 59) rfl b 38 msgZ msgZ rfl rfl (hO3.out.blk HZ2a.out (by have := HZ2.out.lt; omega)) rfl sizeMsg rfl ?_; intro w4 hB4 hO4))
  clear ew2 eb
  refine bodyPost_ret (res_ct Tryz.results4 rfl rfl (load_blk hB4.out Tryz.underlying38 rfl sizeMsg)) rfl ⟨rfl, ?_⟩
  have h3 : Below w2.heap.size w2 w3 := HBa.out.trans (hO3.out.below (Nat.le_refl _))
  have hfin := (HB1.out.trans ((HB2.out.trans (h3.mono HB2.out.size)).mono HB1.out.size)).trans (hO4.out.below (by rw [EB.out]; exact Nat.le_refl _))
  first | exact hfin | (rw [EB.out] at hfin; exact hfin)
def RetTk (b0 : Nat) (w : World) (g fn : Nat) (F : List Value) (S : List (Int × Int)) (x : MsgT) (e : Ending) (w' : World) : Prop :=
  ∃ m : MG, m.x = x ∧ e = .returned (.tuple #[.agg (mgCs m), .int .i64 0]) ∧ ∃ fA' fc' sA' sc' t1 t2 t3, NS b0 w' g fA' (fn - 1) fc' sA' sc' (F.drop 1) (S.drop 1) t1 t2 t3 ∧ Below b0 w w' ∧ w.heap.size ≤ w'.heap.size
set_option maxRecDepth 100000 in
set_option maxHeartbeats 8000000 in
theorem take0_any (b0 : Nat) (w : World) (g : Nat) (fA : Option Addr) (fn fc : Nat) (sA : Option Addr) (sc : Nat) (F : List Value) (S : List (Int × Int)) (t1 t2 t3 : Int) (HN : Hid (NS b0 w g fA fn fc sA sc F S t1 t2 t3)) (A : Option Addr) (n c : Nat) (bs : List Nat) (HE : Hid (InB w A n c bs)) (HF0 : Hid (F[0]? = some (.slice A n c))) (a1 a2 : Int) (HS0 : Hid (S[0]? = some (a1, a2))) (x : MsgT) (HX : Hid (rMsg bs 0 = some (x, n))) (hg : Hid (GE w)) (HFN : Hid (fn < 1000)) (HFM : Hid (1 < fn)) (HB0 : Hid (b0 ≤ w.heap.size)) :
    Calls Tryz.prog 4 #[.pointer (some ⟨g, 0, none⟩), .int .i64 0] w (RetTk b0 w g fn F S x) := by
  have HPK := Lh (fun W (k : Below w.heap.size w W) => peek0_any b0 W g fA fn fc sA sc F S t1 t2 t3 (Lh (HN.out.later k)) A n c bs (Lh (HE.out.bel k)) HF0 x HX (Lh (hg.out.later k)))
  have h0 : 0 < fn := by
    have h1 := HN.out.fl.1
    have h2 := (List.getElem?_eq_some_iff.1 HF0.out).1
    omega
  obtain ⟨fb, fcap, ev, _, hltf⟩ := HN.out.fl.form h0
  injection ev with e1 e2 e3
  subst e1
  obtain ⟨sb, scap, ev, _, hlts⟩ := HN.out.sd.form h0
  injection ev with e1 e4 e5
  subst e1
  have hf0 : w.cell? ⟨fb, 0, none⟩ = some (.slice A n c) := HN.out.fl.cells (g := fb) rfl 0 _ HF0.out
  have hs0 : w.cell? ⟨sb, 0, none⟩ = some (.int .i64 a1) := HN.out.sd.cells (g := sb) rfl 0 _ (mcells_first HS0.out).1
  have hs1 : w.cell? ⟨sb, 1, none⟩ = some (.int .i64 a2) := HN.out.sd.cells (g := sb) rfl 1 _ (mcells_first HS0.out).2
  have HLF := Lh hltf
  have HLS := Lh hlts
  have HGF := Lh (show fb ≠ g from fun e => own_blk_ne HN.out.fl HN.out.blk (by decide) (by rw [← e]; rfl))
  have HGS := Lh (show sb ≠ g from fun e => own_blk_ne HN.out.sd HN.out.blk (by decide) (by rw [← e]; rfl))
  clear e2 e3 e4 e5 hltf hlts
  have hfl := HN.out.fl.1
  have hsl := HN.out.sd.1
  rw [mcells_len] at hsl
  obtain ⟨q, hq⟩ : ∃ q, fn - 1 = q := ⟨_, rfl⟩
  have HFM0 := HFM.out
  have HQ0 := Lh (show 0 < q from by omega)
  have HQE := Lh hq
  have HQL := Lh (show F.length = q + 1 ∧ S.length = q + 1 from ⟨by omega, by omega⟩)
  obtain ⟨df, hdf⟩ : ∃ d, fc - 1 = d := ⟨_, rfl⟩
  obtain ⟨ds, hds⟩ : ∃ d, sc - 1 = d := ⟨_, rfl⟩
  have hfc : fn ≤ fc := by obtain ⟨A', c', e', h1, h2⟩ := own_slice HN.out.fl; injection e' with _ _ e'; omega
  have hsc : fn ≤ sc := by obtain ⟨A', c', e', h1, h2⟩ := own_slice HN.out.sd; injection e' with _ _ e'; omega
  obtain ⟨fi, fi1, fi2, fi3, fi4⟩ := info_parts Tryz.zFl
  obtain ⟨si, si1, si2, si3, si4⟩ := info_parts Tryz.zSd
  have r0f := fun W => slice_00 (P := Tryz.prog) Tryz.underlying42 fi1 fi3 ⟨fb, 0, none⟩ fn fc W
  have r1f := fun W => slice_from (P := Tryz.prog) Tryz.underlying42 fi1 fi3 (some ⟨fb, 0, none⟩) fn fc 1 (by omega) hfc W
  have r0s := fun W => slice_00 (P := Tryz.prog) Tryz.underlying43 si1 si3 ⟨sb, 0, none⟩ fn sc W
  have r1s := fun W => slice_from (P := Tryz.prog) Tryz.underlying43 si1 si3 (some ⟨sb, 0, none⟩) fn sc 1 (by omega) hsc W
  rw [if_neg (by omega), hq, hdf] at r1f
  rw [if_neg (by omega), hq, hds] at r1s
  rw [show (some (⟨fb, 0, none⟩ : Addr)).map (·.add (1 * 1)) = some ⟨fb, 1, none⟩ from rfl, show ((1 : Nat) : Int) = 1 from rfl] at r1f
  rw [show (some (⟨sb, 0, none⟩ : Addr)).map (·.add (1 * 2)) = some ⟨sb, 2, none⟩ from rfl, show ((1 : Nat) : Int) = 1 from rfl] at r1s
  have HR0F := Lh r0f
  have HR1F := Lh r1f
  have HR0S := Lh r0s
  have HR1S := Lh r1s
  have HCF := Lh (fun W (k : Below w.heap.size w W) (j : Nat) u (hu : (F.drop 1)[j]? = some u) => show W.cell? ((⟨fb, 1, none⟩ : Addr).add j) = some u from by
    rw [show (⟨fb, 1, none⟩ : Addr).add j = (⟨fb, 0, none⟩ : Addr).add (1 + j) from by rw [show (⟨fb, 1, none⟩ : Addr) = (⟨fb, 0, none⟩ : Addr).add 1 from rfl, add_of_add]]
    exact (own_bel HN.out.fl k).cells (g := fb) rfl (1 + j) u (by rw [← hu, List.getElem?_drop]))
  have HCS := Lh (fun W (k : Below w.heap.size w W) (j : Nat) u (hu : (mcells (S.drop 1))[j]? = some u) => show W.cell? ((⟨sb, 2, none⟩ : Addr).add j) = some u from by
    rw [show (⟨sb, 2, none⟩ : Addr).add j = (⟨sb, 0, none⟩ : Addr).add (2 + j) from by rw [show (⟨sb, 2, none⟩ : Addr) = (⟨sb, 0, none⟩ : Addr).add 2 from rfl, add_of_add]]
    exact (own_bel HN.out.sd k).cells (g := sb) rfl (2 + j) u (by rw [← hu, ← mcells_drop, List.getElem?_drop]))
  clear hfl hsl hq hdf hds hfc hsc fi1 fi2 fi3 fi4 si1 si2 si3 si4 r0f r1f r0s r1s hf0 hs0 hs1 HFM0 h0
  obtain ⟨w1, ew⟩ : ∃ w1, w.alloc (.cells msgZ 38) = w1 := ⟨_, rfl⟩
  have hb1 : Below w.heap.size w (w.alloc (.cells msgZ 38)) := (Below.refl _ _).alloc (Nat.le_refl _) _
  have hz := Blk.new w 38 msgZ
  rw [ew] at hb1 hz
  have ew2 : w.alloc (.cells #[.int .i64 0, .int .i64 0, .int .i64 0, .int .u64 0, .int .u64 0, .int .u64 0, .int .u64 0, .int .u64 0, .bool false, .bool false, .slice none 0 0, .slice none 0 0, .slice none 0 0, .int .u64 0, .int .i64 0, .int .u64 0, .int .i64 0, .int .i64 0, .int .i64 0, .int .u32 0, .slice none 0 0, .int .u64 0, .int .u64 0, .int .i64 0, .string ⟨#[]⟩, .int .i64 0, .slice none 0 0] 38) = w1 := ew
  have HB1 := Lh hb1
  have HZ := Lh hz
  obtain ⟨b, eb⟩ : ∃ b, w.heap.size = b := ⟨_, rfl⟩
  have EB := Lh eb
  rw [eb] at HZ
  clear hb1 hz ew
  go_enter Tryz.func4, Tryz.ntmps4
  go_upto_region 2 with (first
    | rw [ew2]
    | rw [eb]
    | (go_at_call 5; refine (HPK.out w1 HB1.out).mono ?_; rintro e w2 ⟨m, hmx, rfl, hb2⟩
       have HB2 := Lh hb2
       have HMX := Lh hmx
       have HZ2 := Lh (HZ.out.below hb2 HZ.out.lt)
       obtain ⟨cs, ecs⟩ : ∃ cs, mgCs m = cs := ⟨_, rfl⟩
       have ECS := Lh ecs
       have HSZ := Lh (show cs.size = 27 from by rw [← ecs]; rfl)
       have HONE := Lh (show cs.toList.all (·.oneCell') = true from by rw [← ecs]; rfl)
       rw [ecs]
       have HNW := Lh (Blk.new w2 38 msgZ)
       have HZ2a := Lh (HZ2.out.alloc (.cells msgZ 38))
       have HBa := Lh ((Below.refl w2.heap.size w2).alloc (Nat.le_refl _) (.cells msgZ 38))
       clear hb2 hmx ecs)
    | (refine wpl_store_blk rfl 38 (.tmp 6) (.tmp 12) rfl w2.heap.size 38 msgZ cs rfl rfl HNW.out (by rw [HSZ.out]; rfl) (by rw [HSZ.out]; exact sizeMsg) HONE.out ?_; intro w3 hB3 hO3))
  clear ew2
  have HB3 := Lh (HB1.out.trans ((HB2.out.trans ((HBa.out.trans (hO3.out.below (Nat.le_refl _))).mono HB2.out.size)).mono HB1.out.size))
  have HZ3 := Lh (hO3.out.blk HZ2a.out (by have := HZ2.out.lt; omega))
  have HC3 := hB3
  obtain ⟨b6, eb6⟩ : ∃ b, w2.heap.size = b := ⟨_, rfl⟩
  have HB6 := Lh (show b < b6 from by rw [← eb6]; exact HZ2.out.lt)
  rw [eb6] at HC3 ⊢
  have HGB := Lh (show g < b from by rw [← EB.out]; exact HN.out.blk.lt)
  have HB := Lh (HN.out.blk.below HB3.out HN.out.blk.lt)
  have HSZ0 := Lh HB3.out.size
  have c1 : w3.cell? ⟨g, 1, none⟩ = some (.slice (some ⟨fb, 0, none⟩) fn fc) := HB.out.cell 1
  have HB3L := Lh (show b6 < w3.heap.size from HC3.out.lt)
  clear hB3 hO3 eb6 HBa HZ2a HNW HZ2 HZ HPK
  go_upto_region 3 with (fail)
  clear eb
  have hw1 : IntKind.i64.wrap 1 = 1 := by decide
  have r0f := HR0F.out
  have r1f := HR1F.out
  refine wp_region_late (S0 := fun _ => True) (S := fun w' => w'.cell? ⟨g, 1, none⟩ = some (.slice (some ⟨fb, 0, none⟩) fn fc)) 15 19 (by kernel_rfl) rfl ⟨trivial, c1⟩ (fun wd hwd hH => ?_)
  have DW := Lh (show Below w3.heap.size w3 wd from by rw [hwd]; exact (Below.refl _ _).drew)
  clear hwd c1
  have HBd := Lh (HB3.out.trans (DW.out.mono HB3.out.size))
  have HBK := HN
  refine tS 0 rfl ?_ hH ?_ ?_
  rotate_left
  · (intro wx hx; go_simp <;> with_reducible rfl)
  try simp only [Act.put, pA9, pZ9, pS9]
  refine tS 1 rfl ?_ hH ?_ ?_
  rotate_left
  · (intro wx hx; go_simp <;> with_reducible rfl)
  try simp only [Act.put, pA9, pZ9, pS9]
  refine tS 2 rfl ?_ hH ?_ ?_
  rotate_left
  · (intro wx hx; go_simp <;> with_reducible rfl)
  try simp only [Act.put, pA9, pZ9, pS9]
  refine tS 3 rfl ?_ hH ?_ ?_
  rotate_left
  · (intro wx hx; go_simp <;> with_reducible rfl)
  try simp only [Act.put, pA9, pZ9, pS9]
  refine wpAnyT_take 4 (v := ?_) rfl (by kernel_rfl) (fun _ _ _ h => h) (Or.inl ⟨by rfl, ?_⟩) hH ?_
  rotate_left
  · (intro wx hx; go_simp <;> with_reducible rfl)
  try simp only [Act.put, pA9, pZ9, pS9]
  refine tS 5 rfl ?_ hH ?_ ?_
  rotate_left
  · (intro wx hx; go_simp <;> with_reducible rfl)
  try simp only [Act.put, pA9, pZ9, pS9]
  refine tS 6 rfl ?_ hH ?_ ?_
  rotate_left
  · (intro wx hx; go_simp <;> with_reducible rfl)
  try simp only [Act.put, pA9, pZ9, pS9]
  refine tS 7 rfl ?_ hH ?_ ?_
  rotate_left
  · (intro wx hx; go_simp <;> with_reducible rfl)
  try simp only [Act.put, pA9, pZ9, pS9]
  refine tS 8 rfl ?_ hH ?_ ?_
  rotate_left
  · (intro wx hx; go_simp <;> with_reducible rfl)
  try simp only [Act.put, pA9, pZ9, pS9]
  refine tS 9 rfl ?_ hH ?_ ?_
  rotate_left
  · (intro wx hx; go_simp <;> with_reducible rfl)
  try simp only [Act.put, pA9, pZ9, pS9]
  refine tS 10 rfl ?_ hH ?_ ?_
  rotate_left
  · (intro wx hx; go_simp <;> with_reducible rfl)
  try simp only [Act.put, pA9, pZ9, pS9]
  refine wpAnyT_take 11 (v := ?_) rfl (by kernel_rfl) (fun _ _ _ h => h) (Or.inl ⟨by rfl, ?_⟩) hH ?_
  rotate_left
  · (intro wx hx; go_simp <;> with_reducible rfl)
  try simp only [Act.put, pA9, pZ9, pS9]
  refine tS 12 rfl ?_ hH ?_ ?_
  rotate_left
  · (intro wx hx; go_simp <;> with_reducible rfl)
  try simp only [Act.put, pA9, pZ9, pS9]
  refine tS 13 rfl ?_ hH ?_ ?_
  rotate_left
  · (intro wx hx; go_simp <;> with_reducible rfl)
  try simp only [Act.put, pA9, pZ9, pS9]
  refine tS 14 rfl ?_ hH ?_ ?_
  rotate_left
  · (intro wx hx; go_simp <;> with_reducible rfl)
  try simp only [Act.put, pA9, pZ9, pS9]
  refine wpAnyT_last 15 rfl (by kernel_rfl) (by decide) (fun K hQ => ?_)
  have BWF := Lh HBd.out
  refine step_append_z rfl (.tmp 23) (.tmp 30) _ rfl b0 33 _ 1 24 Tryz.underlying42 Tryz.zFl rfl (⟨fb, 0, none⟩ : Addr) ⟨fb, 1, none⟩ q df (F.drop 1) rfl rfl (by have := HQL.out; first | simp [mcells_len, List.length_drop]; omega | (rw [mcells_len, List.length_drop]; omega)) (HCF.out wd BWF.out) HQ0.out (by have := HFN.out; have := HQE.out; omega) (by decide) (by have := HB0.out; have := HSZ0.out; have := BWF.out.size; omega) ?_
  rintro cF w4 hF
  obtain ⟨hoF, hbF⟩ := hF.out
  have HOF := Lh hoF
  have HBF := Lh hbF
  obtain ⟨bbF, ebbF⟩ : ∃ b, wd.heap.size = b := ⟨_, rfl⟩
  rw [ebbF] at HOF ⊢
  have GEF := Lh ebbF
  have HXF := Lh ((HN.out.blk.below BWF.out HN.out.blk.lt).below hbF (HN.out.blk.below BWF.out HN.out.blk.lt).lt)
  have z0 : w4.cell? ⟨g, 1, none⟩ = some (.slice (some ⟨fb, 0, none⟩) fn fc) := HXF.out.cell 1
  have z1 : w4.frozen? ⟨g, 1, none⟩ = false := HXF.out.frozen 1
  clear hoF hbF hF ebbF
  refine hQ.out _ _ ?_ (fun hH15 => ?_)
  · exact trivial
  clear hQ K
  try simp only [Act.put, pA9, pZ9, pS9]
  refine tT 16 rfl ?_ ⟨hH15, fun h => absurd h (by decide)⟩ ?_ ?_
  rotate_left
  · (intro wx hx; go_simp <;> with_reducible rfl)
  try simp only [Act.put, pA9, pZ9, pS9]
  refine tT 17 rfl ?_ ⟨hH15, fun h => absurd h (by decide)⟩ ?_ ?_
  rotate_left
  · (intro wx hx; go_simp <;> with_reducible rfl)
  try simp only [Act.put, pA9, pZ9, pS9]
  refine wpAnyT_last 18 rfl (by kernel_rfl) (by decide) (fun K hQ => ?_)
  go_simp
  refine hQ.out _ _ ?_ (fun hH18 => ?_)
  · exact trivial
  clear hQ K
  try simp only [Act.put, pA9, pZ9, pS9]
  refine wpAnyT_done (by kernel_rfl) ?_ _
  clear hw1 r0f r1f hH hH15 hH18 z0 z1
  have HX5 := Lh (show Blk (w4.setCell ⟨g, 1, none⟩ (.slice (some ⟨bbF, 0, none⟩) q cF)) g 45 (nCs (some ⟨bbF, 0, none⟩) q cF (some ⟨sb, 0, none⟩) fn sc t1 t2 t3) from HXF.out.set_ 1 _)
  have HN5 := Lh (Only.set_ w4 g 1 (.slice (some ⟨bbF, 0, none⟩) q cF))
  have HW4 := Lh (HBd.out.trans (HBF.out.mono HBd.out.size))
  have HF5 := Lh (own_gb HOF.out HN5.out.grown (.inr (own_blk_ne HOF.out HXF.out (by decide))))
  have HS4 := Lh (own_bel HN.out.sd HW4.out)
  have HS5 := Lh (own_gb HS4.out HN5.out.grown (.inr (own_blk_ne HS4.out HXF.out (by decide))))
  have HZ5 := Lh (HN5.out.blk (HZ3.out.below (DW.out.trans (HBF.out.mono DW.out.size)) HZ3.out.lt) (by have := HGB.out; omega))
  have HC5 := Lh (HN5.out.blk (HC3.out.below (DW.out.trans (HBF.out.mono DW.out.size)) HC3.out.lt) (by have := HGB.out; have := HB6.out; omega))
  have HCS5 := Lh (fun (j : Nat) u (hu : (mcells (S.drop 1))[j]? = some u) => show (w4.setCell ⟨g, 1, none⟩ (.slice (some ⟨bbF, 0, none⟩) q cF)).cell? ((⟨sb, 2, none⟩ : Addr).add j) = some u from (HN5.out.cell (p := (⟨sb, 2, none⟩ : Addr).add j) (by rw [block_of_add]; exact HGS.out)).trans (HCS.out w4 HW4.out j u hu))
  obtain ⟨w5, ew5⟩ : ∃ w5, w4.setCell ⟨g, 1, none⟩ (.slice (some ⟨bbF, 0, none⟩) q cF) = w5 := ⟨_, rfl⟩
  rw [ew5] at HX5 HN5 HF5 HS5 HZ5 HC5 HCS5
  have HSZ5 := Lh (show w.heap.size ≤ w5.heap.size from by rw [HN5.out.size]; exact HW4.out.size)
  have c2 : w5.cell? ⟨g, 2, none⟩ = some (.slice (some ⟨sb, 0, none⟩) fn sc) := HX5.out.cell 2
  go_upto_region 4 with (rw [ew5])
  clear ew5
  have hw1 : IntKind.i64.wrap 1 = 1 := by decide
  have r0s := HR0S.out
  have r1s := HR1S.out
  refine wp_region_late (S0 := fun _ => True) (S := fun w' => w'.cell? ⟨g, 2, none⟩ = some (.slice (some ⟨sb, 0, none⟩) fn sc)) 15 19 (by kernel_rfl) rfl ⟨trivial, c2⟩ (fun we hwd hH => ?_)
  have EW := Lh (show Below w5.heap.size w5 we from by rw [hwd]; exact (Below.refl _ _).drew)
  clear hwd c2
  refine tS 0 rfl ?_ hH ?_ ?_
  rotate_left
  · (intro wx hx; go_simp <;> with_reducible rfl)
  try simp only [Act.put, pA9, pZ9, pS9]
  refine tS 1 rfl ?_ hH ?_ ?_
  rotate_left
  · (intro wx hx; go_simp <;> with_reducible rfl)
  try simp only [Act.put, pA9, pZ9, pS9]
  refine tS 2 rfl ?_ hH ?_ ?_
  rotate_left
  · (intro wx hx; go_simp <;> with_reducible rfl)
  try simp only [Act.put, pA9, pZ9, pS9]
  refine tS 3 rfl ?_ hH ?_ ?_
  rotate_left
  · (intro wx hx; go_simp <;> with_reducible rfl)
  try simp only [Act.put, pA9, pZ9, pS9]
  refine wpAnyT_take 4 (v := ?_) rfl (by kernel_rfl) (fun _ _ _ h => h) (Or.inl ⟨by rfl, ?_⟩) hH ?_
  rotate_left
  · (intro wx hx; go_simp <;> with_reducible rfl)
  try simp only [Act.put, pA9, pZ9, pS9]
  refine tS 5 rfl ?_ hH ?_ ?_
  rotate_left
  · (intro wx hx; go_simp <;> with_reducible rfl)
  try simp only [Act.put, pA9, pZ9, pS9]
  refine tS 6 rfl ?_ hH ?_ ?_
  rotate_left
  · (intro wx hx; go_simp <;> with_reducible rfl)
  try simp only [Act.put, pA9, pZ9, pS9]
  refine tS 7 rfl ?_ hH ?_ ?_
  rotate_left
  · (intro wx hx; go_simp <;> with_reducible rfl)
  try simp only [Act.put, pA9, pZ9, pS9]
  refine tS 8 rfl ?_ hH ?_ ?_
  rotate_left
  · (intro wx hx; go_simp <;> with_reducible rfl)
  try simp only [Act.put, pA9, pZ9, pS9]
  refine tS 9 rfl ?_ hH ?_ ?_
  rotate_left
  · (intro wx hx; go_simp <;> with_reducible rfl)
  try simp only [Act.put, pA9, pZ9, pS9]
  refine tS 10 rfl ?_ hH ?_ ?_
  rotate_left
  · (intro wx hx; go_simp <;> with_reducible rfl)
  try simp only [Act.put, pA9, pZ9, pS9]
  refine wpAnyT_take 11 (v := ?_) rfl (by kernel_rfl) (fun _ _ _ h => h) (Or.inl ⟨by rfl, ?_⟩) hH ?_
  rotate_left
  · (intro wx hx; go_simp <;> with_reducible rfl)
  try simp only [Act.put, pA9, pZ9, pS9]
  refine tS 12 rfl ?_ hH ?_ ?_
  rotate_left
  · (intro wx hx; go_simp <;> with_reducible rfl)
  try simp only [Act.put, pA9, pZ9, pS9]
  refine tS 13 rfl ?_ hH ?_ ?_
  rotate_left
  · (intro wx hx; go_simp <;> with_reducible rfl)
  try simp only [Act.put, pA9, pZ9, pS9]
  refine tS 14 rfl ?_ hH ?_ ?_
  rotate_left
  · (intro wx hx; go_simp <;> with_reducible rfl)
  try simp only [Act.put, pA9, pZ9, pS9]
  refine wpAnyT_last 15 rfl (by kernel_rfl) (by decide) (fun K hQ => ?_)
  have BWS := Lh EW.out
  refine step_append_z rfl (.tmp 41) (.tmp 48) _ rfl b0 62 _ 2 16 Tryz.underlying43 Tryz.zSd rfl (⟨sb, 0, none⟩ : Addr) ⟨sb, 2, none⟩ q ds (mcells (S.drop 1)) rfl rfl (by have := HQL.out; first | simp [mcells_len, List.length_drop]; omega | (rw [mcells_len, List.length_drop]; omega)) (fun j u hu => (EW.out.cell (p := (⟨sb, 2, none⟩ : Addr).add j) (by rw [block_of_add]; exact (HS5.out.lt sb rfl).2)).trans (HCS5.out j u hu)) HQ0.out (by have := HFN.out; have := HQE.out; omega) (by decide) (by have := HB0.out; have := HSZ5.out; have := BWS.out.size; omega) ?_
  rintro cS w6 hS
  obtain ⟨hoS, hbS⟩ := hS.out
  have HOS := Lh hoS
  have HBS := Lh hbS
  obtain ⟨bbS, ebbS⟩ : ∃ b, we.heap.size = b := ⟨_, rfl⟩
  rw [ebbS] at HOS ⊢
  have GES := Lh ebbS
  have HXS := Lh ((HX5.out.below BWS.out HX5.out.lt).below hbS (HX5.out.below BWS.out HX5.out.lt).lt)
  have z0 : w6.cell? ⟨g, 2, none⟩ = some (.slice (some ⟨sb, 0, none⟩) fn sc) := HXS.out.cell 2
  have z1 : w6.frozen? ⟨g, 2, none⟩ = false := HXS.out.frozen 2
  clear hoS hbS hS ebbS
  refine hQ.out _ _ ?_ (fun hH15 => ?_)
  · exact trivial
  clear hQ K
  try simp only [Act.put, pA9, pZ9, pS9]
  refine tT 16 rfl ?_ ⟨hH15, fun h => absurd h (by decide)⟩ ?_ ?_
  rotate_left
  · (intro wx hx; go_simp <;> with_reducible rfl)
  try simp only [Act.put, pA9, pZ9, pS9]
  refine tT 17 rfl ?_ ⟨hH15, fun h => absurd h (by decide)⟩ ?_ ?_
  rotate_left
  · (intro wx hx; go_simp <;> with_reducible rfl)
  try simp only [Act.put, pA9, pZ9, pS9]
  refine wpAnyT_last 18 rfl (by kernel_rfl) (by decide) (fun K hQ => ?_)
  go_simp
  refine hQ.out _ _ ?_ (fun hH18 => ?_)
  · exact trivial
  clear hQ K
  try simp only [Act.put, pA9, pZ9, pS9]
  refine wpAnyT_done (by kernel_rfl) ?_ _
  clear hw1 r0s r1s hH hH15 hH18 z0 z1
  have HX7 := Lh (show Blk (w6.setCell ⟨g, 2, none⟩ (.slice (some ⟨bbS, 0, none⟩) q cS)) g 45 (nCs (some ⟨bbF, 0, none⟩) q cF (some ⟨bbS, 0, none⟩) q cS t1 t2 t3) from HXS.out.set_ 2 _)
  have HN7 := Lh (Only.set_ w6 g 2 (.slice (some ⟨bbS, 0, none⟩) q cS))
  have HW6 := Lh (EW.out.trans (HBS.out.mono EW.out.size))
  have HF6 := Lh (own_bel HF5.out HW6.out)
  have HF7 := Lh (own_gb HF6.out HN7.out.grown (.inr (own_blk_ne HF6.out HXS.out (by decide))))
  have HS7 := Lh (own_gb HOS.out HN7.out.grown (.inr (own_blk_ne HOS.out HXS.out (by decide))))
  have HZ7 := Lh (HN7.out.blk (HZ5.out.below HW6.out HZ5.out.lt) (by have := HGB.out; omega))
  have HC7 := Lh (HN7.out.blk (HC5.out.below HW6.out HC5.out.lt) (by have := HGB.out; have := HB6.out; omega))
  obtain ⟨w7, ew7⟩ : ∃ w7, w6.setCell ⟨g, 2, none⟩ (.slice (some ⟨bbS, 0, none⟩) q cS) = w7 := ⟨_, rfl⟩
  rw [ew7] at HX7 HN7 HF7 HS7 HZ7 HC7
  have c4 : w7.cell? ⟨g, 4, none⟩ = some (.int .i64 t2) := HX7.out.cell 4
  have f4 : w7.frozen? ⟨g, 4, none⟩ = false := HX7.out.frozen 4
  obtain ⟨p, hp⟩ : ∃ p, IntKind.i64.wrap (t2 + 1) = p := ⟨_, rfl⟩
  go_upto_region 6 with (first | rw [ew7] | rw [hp])
  clear ew7 c4 f4 hp
  have HX8 := Lh (show Blk (w7.setCell ⟨g, 4, none⟩ (.int .i64 p)) g 45 (nCs (some ⟨bbF, 0, none⟩) q cF (some ⟨bbS, 0, none⟩) q cS t1 p t3) from HX7.out.set_ 4 _)
  have HN8 := Lh (Only.set_ w7 g 4 (.int .i64 p))
  have HF8 := Lh (own_gb HF7.out HN8.out.grown (.inr (own_blk_ne HF7.out HX7.out (by decide))))
  have HS8 := Lh (own_gb HS7.out HN8.out.grown (.inr (own_blk_ne HS7.out HX7.out (by decide))))
  have HZ8 := Lh (HN8.out.blk HZ7.out (by have := HGB.out; omega))
  have HC8 := Lh (HN8.out.blk HC7.out (by have := HGB.out; have := HB6.out; omega))
  obtain ⟨w8, ew8⟩ : ∃ w8, w7.setCell ⟨g, 4, none⟩ (.int .i64 p) = w8 := ⟨_, rfl⟩
  rw [ew8] at HX8 HN8 HF8 HS8 HZ8 HC8 ⊢
  clear ew8
  go_wp2_with (first
    | (refine wpl_load_blk rfl 38 (.tmp 6) rfl b6 38 cs _ rfl HC8.out Tryz.underlying38 rfl (by rw [HSZ.out]; exact sizeMsg) ?_)
    | (refine wpl_store_blk rfl 38 (.tmp 4) (.tmp 59) rfl b 38 msgZ cs rfl rfl HZ8.out (by rw [HSZ.out]; rfl) (by rw [HSZ.out]; exact sizeMsg) HONE.out ?_; intro w9 hB9 hO9))
  refine bodyPost_ret (res_ct Tryz.results4 rfl rfl (load_blk hB9.out Tryz.underlying38 rfl (by rw [HSZ.out]; exact sizeMsg))) rfl ⟨m, HMX.out, by rw [ECS.out]; rfl, some ⟨bbF, 0, none⟩, cF, some ⟨bbS, 0, none⟩, cS, t1, p, t3, ?_, ?_, ?_⟩
  · rw [HQE.out]
    have k1 := HX8.out
    have hne : g ≠ b := by have := HGB.out; omega
    have hub : Blk w8 b 38 msgZ := HZ8.out
    exact ⟨hO9.out.blk k1 hne, own_gb HF8.out hO9.out.grown (.inr (own_blk_ne HF8.out hub (by decide))), own_gb HS8.out hO9.out.grown (.inr (own_blk_ne HS8.out hub (by decide))), HN.out.ge⟩
  · have hge := HN.out.ge
    have hbb : b0 ≤ b := by rw [← EB.out]; exact HB0.out
    have h4 : Below b0 w w4 := HW4.out.mono HB0.out
    have h5 := h4.trans (HN5.out.below hge)
    have h6 := h5.trans (HW6.out.mono (Nat.le_trans HB0.out HSZ5.out))
    exact ((h6.trans (HN7.out.below hge)).trans (HN8.out.below hge)).trans (hO9.out.below hbb)
  · rw [hO9.out.size, HN8.out.size, HN7.out.size]
    have := HW6.out.size
    have := HSZ5.out
    omega
end Go.Proofs.YtijdbdenmcjmmaaGreatDoor
end
