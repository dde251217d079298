/-
  MetaHolds is true: whatever commands come, behind each of at most 200 of them the state may be, and no chunk of an object or an intent of the last one is waste. For every input.
  (printed by gen_meholds.py)
-/
import Derived.Test.YtdoneomahlfkbaaGreatMcm26
import Derived.Test.YtdoneomahlfkbaaGreatMcm27
namespace Go.Proofs.YtdoneomahlfkbaaGreat
open Go.RowKit OctMath StrMath PlMath
set_option linter.unusedVariables false
set_option linter.unusedSimpArgs false
set_option maxRecDepth 100000 in
set_option maxHeartbeats 8000000 in
theorem holds_any (A : Option Addr) (n cap : Nat) (cms : List CM) (w : World) (HRD : Hid (Reads w w.heap.size 16 A n (cms.flatMap cmL))) (HLN : Hid (cms.length = n)) (HCW : Hid (∀ m ∈ cms, CmW w m)) :
    Calls Tryz.prog 4 #[.slice A n cap] w fun e w' => e = .returned (.bool true) ∧ Below w.heap.size w w' := by
  have HHD := Lh (fun W => heads_any W)
  by_cases hn : n ≤ 200
  · have d1 : decide ((n : Int) > 200) = false := decide_eq_false (by omega)
    have d2 : decide (200 < (n : Int)) = false := decide_eq_false (by omega)
    have d3 : decide (200 < n) = false := decide_eq_false (by omega)
    have HRUN := Lh (run_any A n cap cms w HRD HLN HCW (by omega))
    go_enter Tryz.func4, Tryz.ntmps4
    go_wp2_with (fail)
    refine HRUN.out.mono ?_
    rintro e w2 ⟨m, rfl, hin, hrun, -, hb⟩
    have HB2 := Lh hb
    have HIN := Lh hin
    have HR := Lh hrun
    clear hb hin hrun HRUN d1 d2 d3
    obtain ⟨nw, enw⟩ : ∃ x, m.x.wass.length = x := ⟨_, rfl⟩
    obtain ⟨WA, eWA⟩ : ∃ x, m.WA = x := ⟨_, rfl⟩
    have hnw : nw ≤ 33554432 := by rw [← enw]; exact HIN.out.wf.wl
    have HLW := Lh enw
    have HRW := Lh (show Reads w2 w2.heap.size 4 WA nw (m.x.wass.flatMap wasL) from by have := HIN.out.rows.wass.rd; unfold MM.wass at this; rw [enw, eWA] at this; exact this)
    have HLV := Lh (fun wt (hw : wt ∈ m.x.wass) W (h : Below w2.heap.size w2 W) => live_none m wt W (Lh (HIN.out.later h)) (Lh (mst_of HR.out.may)) (Lh (HR.out.siz (by omega))) (Lh (fun o ho => by
      have ex := HR.out.inv.ext
      rcases ho with ho | ⟨x, hx, rfl⟩
      · intro e1 e2; have := ex.wo wt hw o ho e1; omega
      · intro e1 e2; have := ex.wi wt hw x hx e1; omega)))
    obtain ⟨cs, ecs⟩ : ∃ cs, m.cs = cs := ⟨_, rfl⟩
    have V11 := Lh (show cs[11]? = some (.slice WA nw m.wc) from by rw [← ecs, ← eWA, ← enw]; rfl)
    have HCS := Lh (show cs.size = 14 from by rw [← ecs]; rfl)
    have HCO := Lh (show cs.toList.all (·.oneCell') = true from by rw [← ecs]; rfl)
    rw [ecs] at HLV
    rw [ecs]
    clear ecs eWA enw
    go_upto_region 6 with (refine wpl_store_blk rfl 34 (.tmp 3) (.tmp 13) rfl w2.heap.size 34 mZ cs rfl rfl (Blk.new w2 _ _) (by rw [HCS.out]; rfl) (by rw [HCS.out]; exact Tryz.szSt) HCO.out ?_; intro w3 hB3 hO3)
    have HT := hB3
    have HB3 := Lh (show Below w2.heap.size w2 w3 from ((Below.refl _ _).alloc (Nat.le_refl _) _).trans (hO3.out.below (Nat.le_refl _)))
    obtain ⟨b3, e3⟩ : ∃ b3, w2.heap.size = b3 := ⟨_, rfl⟩
    rw [e3] at HT ⊢
    clear e3 hB3 hO3
    go_wp2_with fail
    go_loopw [5] (fun vi wr => ∃ k : Nat, k ≤ nw ∧ vi = .int .i64 k ∧ Hid (Below w3.heap.size w3 wr)) (fun vi _ => nw - (intOf vi).toNat)
    case atStart => exact ⟨0, by omega, rfl, Lh (Below.refl _ _)⟩
    case round =>
      obtain ⟨k, hk, rfl, HBk⟩ := hrel
      have HT' := Lh (HT.out.below HBk.out HT.out.lt)
      have B2k := Lh (HB3.out.trans (HBk.out.mono HB3.out.size))
      have k11 := (HT'.out.cell 11).trans V11.out
      by_cases hlt : k < nw
      · have hmsl : k < m.x.wass.length := by have := HLW.out; omega
        obtain ⟨ad, rfl, hadb, hcell⟩ := elem_cells (cells := wasL) (K := 4) (fun _ => rfl) (HRW.out.later B2k.out) hmsl (by omega)
        have hlv := fun W => HLV.out m.x.wass[k] (List.getElem_mem hmsl) W
        obtain ⟨wt, ewt⟩ : ∃ wt, m.x.wass[k] = wt := ⟨_, rfl⟩
        rw [ewt] at hcell
        simp only [ewt] at hlv
        obtain ⟨ws, ews⟩ : ∃ ws, wasCs wt = ws := ⟨_, rfl⟩
        have HWZ := Lh (show ws.size = 4 from by rw [← ews]; rfl)
        have HC1 : Hid (∀ j v, ws.toList[j]? = some v → wr.cell? ((ad.add (k * 4)).add j) = some v) := by rw [← ews]; exact Lh hcell
        have HAD := Lh hadb
        rw [ews] at hlv
        have HLK := Lh hlv
        clear ewt ews hcell hadb hlv hmsl
        go_upto_region 9 with (fail)
        refine wp_region_late (S0 := fun w' => Below wr.heap.size wr w' ∧ w'.cell? ⟨b3, 11, none⟩ = some (.slice (some ad) nw m.wc)) (S := fun _ => True) 6 7 (by kernel_rfl) rfl ⟨⟨(Below.refl _ _).drew, k11⟩, trivial⟩ (fun wd hwd hH => ?_)
        have DW := Lh (show Below wr.heap.size wr wd from by rw [hwd]; exact (Below.refl _ _).drew)
        clear hwd
        refine wpAnyT_stay 0 rfl (by kernel_rfl) (fun _ _ _ h => h) (yields_load_blk rfl 34 (.tmp 3) rfl b3 34 cs _ rfl (fun w' hw' => HT'.out.below hw'.1 HT'.out.lt) Tryz.underlying34 rfl (by rw [HCS.out]; exact Tryz.szSt)) ⟨hH.1, fun _ => hH.2⟩ ?_
        try simp only [Act.put, pA9, pZ9, pS9]
        refine wpAnyT_stay 1 (v := ?_) rfl (by kernel_rfl) (fun _ _ _ h => h) (Or.inl ⟨by rfl, ?_⟩) ⟨hH.1, fun _ => hH.2⟩ ?_
        rotate_left
        · (intro wx hx; obtain ⟨_, _⟩ := hx; go_simp <;> with_reducible rfl)
        try simp only [Act.put, pA9, pZ9, pS9]
        refine wpAnyT_stay 2 (v := ?_) rfl (by kernel_rfl) (fun _ _ _ h => h) (Or.inl ⟨by rfl, ?_⟩) ⟨hH.1, fun _ => hH.2⟩ ?_
        rotate_left
        · (intro wx hx; obtain ⟨_, _⟩ := hx; go_simp <;> with_reducible rfl)
        try simp only [Act.put, pA9, pZ9, pS9]
        refine wpAnyT_stay 3 (v := ?_) rfl (by kernel_rfl) (fun _ _ _ h => h) (Or.inl ⟨by rfl, ?_⟩) ⟨hH.1, fun _ => hH.2⟩ ?_
        rotate_left
        · (intro wx hx; obtain ⟨_, _⟩ := hx; go_simp <;> with_reducible rfl)
        try simp only [Act.put, pA9, pZ9, pS9]
        refine wpAnyT_stay 4 (v := ?_) rfl (by kernel_rfl) (fun _ _ _ h => h) (Or.inl ⟨by rfl, ?_⟩) ⟨hH.1, fun _ => hH.2⟩ ?_
        rotate_left
        · (intro wx hx; obtain ⟨_, _⟩ := hx; go_simp <;> with_reducible rfl)
        try simp only [Act.put, pA9, pZ9, pS9]
        refine wpAnyT_stay 5 rfl (by kernel_rfl) (fun _ _ _ h => h) (yields_load_at rfl 52 (.tmp 28) rfl (ad.add (k * 4)) ws.toList _ rfl (fun w' hw' j' v hv => (Below.cell hw'.1 (p := (ad.add (k * 4)).add j') (by rw [block_of_add, block_of_add]; exact HAD.out)).trans (HC1.out j' v hv)) Tryz.underlying52 rfl (by rw [Array.length_toList, HWZ.out]; exact Tryz.szWas)) ⟨hH.1, fun _ => hH.2⟩ ?_
        try simp only [Act.put, pA9, pZ9, pS9]
        refine wpAnyT_last 6 rfl (by kernel_rfl) (by decide) (fun K hQ => ?_)
        go_simp
        (go_at_call 10; refine (HLK.out wd (B2k.out.trans (DW.out.mono B2k.out.size))).mono ?_; rintro e w9 ⟨rfl, hb9⟩)
        refine hQ.out _ _ ?_ (fun hH6 => ?_)
        · exact ⟨DW.out.trans (hb9.mono DW.out.size), cell_later hb9 hH.1.2⟩
        clear hQ K
        try simp only [Act.put, pA9, pZ9, pS9]
        refine wpAnyT_done (by kernel_rfl) ?_ _
        have HBn := Lh (HBk.out.trans ((DW.out.trans (hb9.mono DW.out.size)).mono HBk.out.size))
        clear hH hH6 hb9 k11
        go_wp2
        exact ⟨⟨k + 1, by omega, by go_num, HBn⟩, by simp [intOf]; omega⟩
      · obtain rfl : nw = k := by omega
        go_wp2_with (go_at_call 7; refine (HHD.out wr).mono ?_; rintro e w9 ⟨rfl, hb9⟩; have HB9 := Lh hb9; clear hb9)
        go_ret
        exact ⟨rfl, HB2.out.trans ((B2k.out.trans (HB9.out.mono B2k.out.size)).mono HB2.out.size)⟩
  · have d1 : decide ((n : Int) > 200) = true := decide_eq_true (by omega)
    have d2 : decide (200 < (n : Int)) = true := decide_eq_true (by omega)
    have d3 : decide (200 < n) = true := decide_eq_true (by omega)
    go_enter Tryz.func4, Tryz.ntmps4
    go_wp2_with (go_at_call 7; refine (HHD.out w).mono ?_; rintro e w9 ⟨rfl, hb9⟩)
    go_ret
    exact ⟨rfl, hb9⟩
set_option maxRecDepth 100000 in
theorem walk_MetaHolds {H : Type} {enc : TypeId × Value → H} (W : World) {base : Nat} (v : Value) (d : DataW H) (p : List MemPlace) (h : DataW.Trod enc Tryz.prog W 0 (fun _ => true) true 22 v d p) (hok : Value.okWide Tryz.prog W .any base 22 v) :
    Calls Tryz.prog 4 #[v] W fun e W' => e = .returned (.bool true) ∧ Below W.heap.size W W' := by
  obtain ⟨A0, len0, cap0, rfl⟩ := Go.WideShapes.okWide_slice Tryz.underlying22 hok
  obtain ⟨fuel, hf⟩ := h
  have hv : (Value.slice A0 len0 cap0).cells.toList = [.slice A0 len0 cap0] := rfl
  rw [hv] at hf
  obtain ⟨A, n, cap, es, e, hr, hl, he, hc, hm⟩ := open_cms hf
  injection e with e1 e2 e3
  subst e1 e2 e3
  exact holds_any A0 len0 cap0 es W (Lh hr) (Lh hl) (Lh he)
namespace metaHolds
open Go.ChangeShapes Go.WideShapes Go.ChangeAt Go.RowKit
open Go.ChangeMaps (open_string shut_string)
set_option linter.unusedVariables false
theorem own : ownKnob Tryz.prog.godebug = none := by kernel_rfl
theorem laidOut : laidOutB Tryz.prog = true := by kernel_rfl
set_option maxRecDepth 100000 in
theorem contract (H : Type) (enc : TypeId × Value → H) (W : World) (base : Nat) (args : Array Value) (ds gs : List (DataW H)) (before : List MemPlace)
    (hval0 : ∀ (j : Nat) t v, Tryz.f4.params[j]? = some t → args[j]? = some v → Value.okWide Tryz.prog W .any base t v)
    (hW : DataW.Whole enc Tryz.prog Tryz.f4.params.toList Rows.metaHoldsSpec.vars false W args.toList ds gs before) :
    Calls Tryz.prog 4 args W fun e W' => ∃ v, e = .returned v ∧ Rows.metaHoldsSpec.post enc Tryz.prog Tryz.f4 false true false false W args v W' := by
  have hval : ∀ (j : Nat) t v, Tryz.f4.params[j]? = some t → args[j]? = some v → Value.okWide Tryz.prog W .any base t v := hval0
  have hW' := hW
  obtain ⟨p, q, hA0, hV, rfl, hfz, hnd⟩ := hW
  have hA : DataW.TrodAll enc Tryz.prog W 0 (fun _ => true) true Tryz.f4.params.toList args.toList ds p := hA0
  rw [Tryz.params4] at hA hval
  obtain ⟨v0, vs0, d0, ds0, p0, q0, hargs, rfl, rfl, h0, r0⟩ := trodAll_cons hA
  obtain ⟨rfl, rfl, rfl⟩ := trodAll_nil r0
  obtain rfl : args = #[v0] := by cases args; simp_all
  obtain ⟨rfl, rfl⟩ := trodVars_none hV
  have k0 := h0
  have lt0 : ∀ x ∈ p0, x.block < W.heap.size := by obtain ⟨m, hm⟩ := k0; exact DataW.trod_lt m _ _ _ hm
  clear hA0 hval0
  refine (walk_MetaHolds W v0 d0 p0 h0 (hval 0 22 v0 rfl rfl)).mono fun e W' ⟨he, bel⟩ => ?_
  subst he
  exact ⟨_, rfl, _, _, _, [], _, [], hW', trodAll_mk1 (shut_bool Tryz.underlying4 _), (trodAll_cons_mk (Below.trod laidOut (by kernel_rfl) (of_decide_eq_true (by kernel_rfl)) k0 bel lt0) trodAll_mk0), rfl, bel.frame _, fun h => by cases h⟩
set_option maxRecDepth 100000 in
theorem lifted (os : Os) (started : os.Started) (H : Type) (enc : TypeId × Value → H) :
    ReturnsInHanded {} Tryz.checked os 4 .any (Rows.metaHoldsSpec.pre6 enc Tryz.prog Tryz.f4 Rows.metaHoldsRow.domain false) (Rows.metaHoldsSpec.post enc Tryz.prog Tryz.f4 false true false false) := by
  refine returnsInHanded_of_change (C := Tryz.checked) own started (by kernel_rfl) Tryz.func4
    (ChangeSpec.witness6 (enc := enc) (C := Tryz.checked) false ⟨#[], #[.slice none 0 0], []⟩ 8 (by kernel_rfl) (by kernel_rfl) (by kernel_rfl) (by kernel_rfl)) ?_
  intro W base args ds gs before hval hW _ _
  exact contract H enc W base args ds gs before hval hW
theorem over : Rows.metaHoldsRow.holds Tryz.pinned (OpenSpec.ofChange Rows.metaHoldsSpec) :=
  OpenClaim.holds_of_wide 4 Tryz.f4 rfl rfl rfl rfl rfl rfl rfl ⟨rfl, rfl, rfl, rfl, rfl⟩ rfl rfl rfl rfl rfl (by kernel_rfl) Tryz.func4 (by kernel_rfl)
    (of_decide_eq_true (by kernel_rfl)) (by unfold Func.isWrapper; first | (rw [if_pos (by decide +kernel)]; kernel_rfl) | (rw [if_neg (by decide +kernel)]; exact ⟨rfl, rfl⟩))
    (fun os started H enc _ => lifted os started H enc)
theorem proved : Rows.MetaHoldsSaid := over
end metaHolds
end Go.Proofs.YtdoneomahlfkbaaGreat
